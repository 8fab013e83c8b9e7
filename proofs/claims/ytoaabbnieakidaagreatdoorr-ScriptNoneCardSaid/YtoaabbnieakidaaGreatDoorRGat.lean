/- Trees balanced by their heights: Join: the walk. Trees taken apart and put together: of, asked: the walks. Trees taken apart and put together: join, key, split: the walks. -/
import Derived.Test.YtoaabbnieakidaaGreatDoorRGas
import Derived.Laws.EntriesVeiled
namespace Go.Proofs.YtoaabbnieakidaaGreatDoorR
open Go.RowKit Go.BigFrame Go.Maps Go.WideMaps Lf

/-- Join where it is not refused -/
def Lf.avlOkM (S : St) (l m r : Nat) : Option ((Nat × Nat) × St) :=
  if m = 0 ∨ isT S l = false ∨ isT S m = false ∨ isT S r = false then none
  else (joinM (getNode S m).1 m 100 S l r).map fun x => ((x.1, 0), x.2)

theorem avlOkM_some {S S' : St} {l m r : Nat} {R : Nat × Nat} (h : avlOkM S l m r = some (R, S')) :
    m ≠ 0 ∧ isT S l = true ∧ isT S m = true ∧ isT S r = true ∧ joinM (getNode S m).1 m 100 S l r = some (R.1, S') ∧ R.2 = 0 := by
  unfold avlOkM at h
  split at h
  · cases h
  · rename_i hc
    obtain ⟨⟨x, S1⟩, h1, h2⟩ := Option.map_eq_some_iff.1 h
    injection h2 with e1 e2
    subst e1 e2
    simp only [not_or, Bool.not_eq_false] at hc
    exact ⟨hc.1, hc.2.1, hc.2.2.1, hc.2.2.2, h1, rfl⟩

set_option maxRecDepth 100000 in
set_option maxHeartbeats 1600000 in
theorem avl_Join {w : World} {ps : Nat} {S S' : St} {Y : Nat → Prop} (h : StOn w ps S Y) (hi : Inv S) (l m r : Nat) (hl : l < 18446744073709551616) (hm : m < 18446744073709551616) (hr : r < 18446744073709551616) {R : Nat × Nat} (hR : avlOkM S l m r = some (R, S')) :
    Calls Tryz.prog 282 #[PV ps, .int .u64 l, .int .u64 m, .int .u64 r] w fun e w' => e = .returned (.tuple #[.int .u64 R.1, .int .i64 R.2]) ∧ StOn w' ps S' Y ∧ Keep Y w w' := by
  obtain ⟨h0, h1, h2, h3, h4, h5⟩ := avlOkM_some hR
  obtain ⟨x, er⟩ := R
  simp only at h4 h5
  subst h5
  have hlen := st_len h hi 0 (by omega)
  rw [len_zero] at hlen
  have h1' := avl_is h hi l hl
  have h2' := fun W (hW : Below w.heap.size w W) => avl_is (h.below hW) hi m hm
  have h3' := fun W (hW : Below w.heap.size w W) => avl_is (h.below hW) hi r hr
  have hg := fun W (hW : Below w.heap.size w W) => avl_get (h.below hW) hi m hm
  have hj := fun W (hW : Below w.heap.size w W) => avl_join (getNode S m).1 (getNode_lt h m) m hm 100 0 rfl (h.below hW) hi hl hr h4
  rw [h1] at h1'
  rw [h2] at h2'
  rw [h3] at h3'
  obtain ⟨⟨⟨k0, k1, k2, k3, k4, k5⟩, er⟩, hE⟩ : ∃ q, getNode S m = q := ⟨_, rfl⟩
  rw [hE] at hg hj
  simp only [trV] at hg hj
  have hq : ((m : Int) == 0) = false := by simp; omega
  have HG := Lib.hid (And.intro hlen (And.intro h1' (And.intro h2' (And.intro h3' (And.intro hg (And.intro hj h))))))
  clear hlen h1' h2' h3' hg hj h hi hE h0 h1 h2 h3 h4 hR
  go_enter Tryz.func282, Tryz.ntmps282
  go_wp2_with fail
  refine HG.out.1.mono ?_
  rintro e w1 ⟨rfl, rfl⟩
  go_wp2_with fail
  refine HG.out.2.1.mono ?_
  rintro e w1 ⟨rfl, hb1⟩
  have H1 := Lib.hid hb1
  clear hb1
  go_wp2_with fail
  refine (HG.out.2.2.1 _ H1.out).mono ?_
  rintro e w2 ⟨rfl, hb2⟩
  have H2 := Lib.hid (H1.out.trans (hb2.mono H1.out.size))
  clear hb2
  go_wp2_with fail
  refine (HG.out.2.2.2.1 _ H2.out).mono ?_
  rintro e w3 ⟨rfl, hb3⟩
  have H3 := Lib.hid (H2.out.trans (hb3.mono H2.out.size))
  clear hb3
  go_wp2_with fail
  refine (HG.out.2.2.2.2.1 _ H3.out).mono ?_
  rintro e w4 ⟨rfl, hb4⟩
  have H4 := Lib.hid (H3.out.trans (hb4.mono H3.out.size))
  clear hb4
  go_wp2_with fail
  refine (HG.out.2.2.2.2.2.1 _ H4.out).mono ?_
  rintro e w5 ⟨rfl, h5, k5'⟩
  have H5 := Lib.hid (And.intro h5 ((HG.out.2.2.2.2.2.2.keep H4.out).trans k5'))
  clear h5 k5'
  go_wp2_with fail
  go_ret2
  exact ⟨rfl, H5.out⟩
end Go.Proofs.YtoaabbnieakidaaGreatDoorR

namespace Go.Proofs.YtoaabbnieakidaaGreatDoorR
open Go.RowKit Go.BigFrame Go.Maps Go.WideMaps Lf

def fnV (f : FuncId) : Value := .func (.func f) #[] #[]
def WayOk (kind : Nat) (j c : FuncId) : Prop := ∀ W, Calls Tryz.prog 264 #[.int .i64 kind] W fun e w' => e = .returned (.tuple #[.agg #[fnV j, fnV c], .bool true]) ∧ Below W.heap.size W w'
def cutV (ps : Nat) (j c : FuncId) : Value := .agg #[PV ps, fnV j, fnV c]

theorem st2_heap {W : World} {b : Nat} {u0 u1 : Value} {t : TypeId} {fr : Nat × Nat} (h : W.heap[b]? = some (.cells #[u0, u1] t fr)) (v0 v1 : Value) : ((W.setCell ⟨b, 0, none⟩ (v0)).setCell ⟨b, 1, none⟩ (v1)).heap[b]? = some (.cells #[v0, v1] t fr) := by
  rw [heap_setCell (heap_setCell h)]
  rfl
theorem st2_below {w W : World} {b : Nat} (h : Below w.heap.size w W) (hb : w.heap.size ≤ b) (v0 v1 : Value) : Below w.heap.size w ((W.setCell ⟨b, 0, none⟩ (v0)).setCell ⟨b, 1, none⟩ (v1)) :=
  (h.setCell (p := ⟨b, 0, none⟩) hb _).setCell (p := ⟨b, 1, none⟩) hb _
theorem st3_heap {W : World} {b : Nat} {u0 u1 u2 : Value} {t : TypeId} {fr : Nat × Nat} (h : W.heap[b]? = some (.cells #[u0, u1, u2] t fr)) (v0 v1 v2 : Value) : (((W.setCell ⟨b, 0, none⟩ (v0)).setCell ⟨b, 1, none⟩ (v1)).setCell ⟨b, 2, none⟩ (v2)).heap[b]? = some (.cells #[v0, v1, v2] t fr) := by
  rw [heap_setCell (heap_setCell (heap_setCell h))]
  rfl
theorem st3_below {w W : World} {b : Nat} (h : Below w.heap.size w W) (hb : w.heap.size ≤ b) (v0 v1 v2 : Value) : Below w.heap.size w (((W.setCell ⟨b, 0, none⟩ (v0)).setCell ⟨b, 1, none⟩ (v1)).setCell ⟨b, 2, none⟩ (v2)) :=
  ((h.setCell (p := ⟨b, 0, none⟩) hb _).setCell (p := ⟨b, 1, none⟩) hb _).setCell (p := ⟨b, 2, none⟩) hb _

set_option maxRecDepth 100000 in
set_option maxHeartbeats 400000 in
theorem way_avl : WayOk 1 282 283 := by
  intro W
  simp only [fnV]
  go_enter Tryz.func264, Tryz.ntmps264
  go_wp2_with fail
  exact bodyPost_ret (v := .tuple #[.agg #[.func (.func 282) #[] #[], .func (.func 283) #[] #[]], .bool true]) (by simp [results, Tryz.f264, go_sem]) rfl ⟨rfl, (Below.refl _ _).alloc (Nat.le_refl _) _⟩

set_option maxRecDepth 100000 in
set_option maxHeartbeats 800000 in
theorem asked_nil {w : World} {ps : Nat} {S : St} {Y : Nat → Prop} (h : StOn w ps S Y) (hi : Inv S) {kind : Nat} {j c : FuncId} (hk : WayOk kind j c) :
    Calls Tryz.prog 245 #[PV ps, .int .i64 kind, .string ⟨#[]⟩, .slice none 0 0] w fun e w' => e = .returned (.tuple #[cutV ps j c, .int .i64 0]) ∧ Below w.heap.size w w' := by
  have q0 := heap_alloc_new w (.cells #[.pointer none, .nilFunc, .nilFunc] 343)
  have B0 := (Below.refl w.heap.size w).alloc (Nat.le_refl _) (.cells #[.pointer none, .nilFunc, .nilFunc] 343)
  have hlen := st_len (h.below B0) hi 0 (by omega)
  rw [len_zero] at hlen
  simp only [cutV, WayOk, fnV] at hk ⊢
  have HG := Lib.hid (And.intro hlen (And.intro hk (And.intro q0 B0)))
  clear hlen hk h hi q0 B0
  go_enter Tryz.func245, Tryz.ntmps245
  go_wp2_with fail
  refine HG.out.1.mono ?_
  rintro e w1 ⟨rfl, rfl⟩
  go_wp2_with fail
  refine (HG.out.2.1 _).mono ?_
  rintro e w2 ⟨rfl, hb2⟩
  have hal := hb2.alloc hb2.size (.cells #[.func (.func j) #[] #[], .func (.func c) #[] #[]] 341)
  have r2 := (hal.block w.heap.size (by simp)).trans HG.out.2.2.1
  have q2 := heap_alloc_new w2 (.cells #[.func (.func j) #[] #[], .func (.func c) #[] #[]] 341)
  have B2 := HG.out.2.2.2.trans (hal.mono HG.out.2.2.2.size)
  go_wp2_with fail
  generalize w2.alloc (.cells #[.func (.func j) #[] #[], .func (.func c) #[] #[]] 341) = W at *
  generalize w2.heap.size = bt at *
  have HR := Lib.hid (And.intro r2 (And.intro B2 q2))
  clear r2 B2 hb2 hal q2
  go_loopw [15, 16, 17, 40] (fun _ _ _ i wr => i = .int .i64 0 ∧ wr = W) (fun _ _ _ _ _ => 0)
  case atStart => exact ⟨rfl, rfl⟩
  case round =>
    obtain ⟨rfl, rfl⟩ := hrel
    obtain ⟨r2, B2, q2⟩ := HR.out
    have c0 : (wr).cell? ⟨w.heap.size, 0, none⟩ = some (.pointer none) := by rw [cell_of_block r2]; rfl
    have c1 : (wr).cell? ⟨w.heap.size, 1, none⟩ = some (.nilFunc) := by rw [cell_of_block r2]; rfl
    have c2 : (wr).cell? ⟨w.heap.size, 2, none⟩ = some (.nilFunc) := by rw [cell_of_block r2]; rfl
    have f0 : (wr).frozen? ⟨w.heap.size, 0, none⟩ = false := frozen_of_block r2
    have f1 : (wr).frozen? ⟨w.heap.size, 1, none⟩ = false := frozen_of_block r2
    have f2 : (wr).frozen? ⟨w.heap.size, 2, none⟩ = false := frozen_of_block r2
    have d0 : (wr).cell? ⟨bt, 0, none⟩ = some (.func (.func j) #[] #[]) := by rw [cell_of_block q2]; rfl
    have d1 : (wr).cell? ⟨bt, 1, none⟩ = some (.func (.func c) #[] #[]) := by rw [cell_of_block q2]; rfl
    have HX := Lib.hid (And.intro r2 B2)
    clear r2 B2 q2
    go_wp2_with fail
    have q3 := st3_heap HX.out.1 (PV ps) (.func (.func j) #[] #[]) (.func (.func c) #[] #[])
    have B3 := st3_below HX.out.2 (Nat.le_refl w.heap.size) (PV ps) (.func (.func j) #[] #[]) (.func (.func c) #[] #[])
    generalize (((wr.setCell ⟨w.heap.size, 0, none⟩ (PV ps)).setCell ⟨w.heap.size, 1, none⟩ (.func (.func j) #[] #[])).setCell ⟨w.heap.size, 2, none⟩ (.func (.func c) #[] #[])) = W3 at *
    have e0 : (W3).cell? ⟨w.heap.size, 0, none⟩ = some (PV ps) := by rw [cell_of_block q3]; rfl
    have e1 : (W3).cell? ⟨w.heap.size, 1, none⟩ = some (.func (.func j) #[] #[]) := by rw [cell_of_block q3]; rfl
    have e2 : (W3).cell? ⟨w.heap.size, 2, none⟩ = some (.func (.func c) #[] #[]) := by rw [cell_of_block q3]; rfl
    exact bodyPost_ret (v := .tuple #[.agg #[PV ps, .func (.func j) #[] #[], .func (.func c) #[] #[]], .int .i64 0]) (by simp [results, Tryz.f245, go_sem, e0, e1, e2]) rfl ⟨rfl, B3⟩

set_option maxRecDepth 100000 in
set_option maxHeartbeats 1600000 in
theorem asked_two {w : World} {ps : Nat} {S : St} {Y : Nat → Prop} (h : StOn w ps S Y) (hi : Inv S) {kind : Nat} {j c : FuncId} (hk : WayOk kind j c) (a b : Nat) (ha : a < 18446744073709551616) (hb : b < 18446744073709551616) (hta : isT S a = true) (htb : isT S b = true) (rb : Nat) {t : TypeId} {fr : Nat × Nat} (hr : w.heap[rb]? = some (.cells #[.int .u64 a, .int .u64 b] t fr)) :
    Calls Tryz.prog 245 #[PV ps, .int .i64 kind, .string ⟨#[]⟩, .slice (some ⟨rb, 0, none⟩) 2 2] w fun e w' => e = .returned (.tuple #[cutV ps j c, .int .i64 0]) ∧ Below w.heap.size w w' := by
  have q0 := heap_alloc_new w (.cells #[.pointer none, .nilFunc, .nilFunc] 343)
  have B0 := (Below.refl w.heap.size w).alloc (Nat.le_refl _) (.cells #[.pointer none, .nilFunc, .nilFunc] 343)
  have hlen := st_len (h.below B0) hi 0 (by omega)
  rw [len_zero] at hlen
  have hga := fun W (hW : Below w.heap.size w W) => node_get (h.below hW) hi a ha
  have hgb := fun W (hW : Below w.heap.size w W) => node_get (h.below hW) hi b hb
  have hza : ∀ er : Nat, (getNode S a).2 = er → (((a : Int) != 0) && ((er : Int) != 0)) = false := fun er he => by
    unfold isT at hta
    simp only [he, Bool.or_eq_true, decide_eq_true_eq] at hta
    rcases hta with e | e <;> simp [e]
  have hzb : ∀ er : Nat, (getNode S b).2 = er → (((b : Int) != 0) && ((er : Int) != 0)) = false := fun er he => by
    unfold isT at htb
    simp only [he, Bool.or_eq_true, decide_eq_true_eq] at htb
    rcases htb with e | e <;> simp [e]
  obtain ⟨⟨⟨a0, a1, a2, a3, a4, a5⟩, ea⟩, hEa⟩ : ∃ q, getNode S a = q := ⟨_, rfl⟩
  obtain ⟨⟨⟨b0, b1, b2, b3, b4, b5⟩, eb⟩, hEb⟩ : ∃ q, getNode S b = q := ⟨_, rfl⟩
  rw [hEa] at hga hza
  rw [hEb] at hgb hzb
  have hza := hza ea rfl
  have hzb := hzb eb rfl
  simp only [cutV, WayOk, fnV, ndV] at hk hga hgb ⊢
  have HG := Lib.hid (And.intro hlen (And.intro hk (And.intro q0 (And.intro B0 (And.intro hga (And.intro hgb hr))))))
  clear hlen hk h hi q0 B0 hga hgb hta htb hEa hEb hr
  have HZ := Lib.hid (And.intro hza hzb)
  clear hza hzb
  go_enter Tryz.func245, Tryz.ntmps245
  go_wp2_with fail
  refine HG.out.1.mono ?_
  rintro e w1 ⟨rfl, rfl⟩
  go_wp2_with fail
  refine (HG.out.2.1 _).mono ?_
  rintro e w2 ⟨rfl, hb2⟩
  have hal := hb2.alloc hb2.size (.cells #[.func (.func j) #[] #[], .func (.func c) #[] #[]] 341)
  have r2 := (hal.block w.heap.size (by simp)).trans HG.out.2.2.1
  have q2 := heap_alloc_new w2 (.cells #[.func (.func j) #[] #[], .func (.func c) #[] #[]] 341)
  have B2 := HG.out.2.2.2.1.trans (hal.mono HG.out.2.2.2.1.size)
  have hsz2 : w.heap.size < w2.heap.size := by have := hb2.size; simp at this; omega
  go_wp2_with fail
  generalize w2.alloc (.cells #[.func (.func j) #[] #[], .func (.func c) #[] #[]] 341) = W at *
  generalize w2.heap.size = bt at *
  have HR := Lib.hid (And.intro r2 (And.intro B2 (And.intro q2 hsz2)))
  clear r2 B2 hb2 hal q2 hsz2
  go_loopw [15, 16, 17, 40] (fun _ _ _ i wr => (i = .int .i64 0 ∧ Below W.heap.size W wr) ∨ (i = .int .i64 1 ∧ Below W.heap.size W wr) ∨ (i = .int .i64 2 ∧ Below W.heap.size W wr)) (fun _ _ _ i _ => 2 - (intOf i).toNat)
  case atStart => exact Or.inl ⟨rfl, Below.refl _ _⟩
  case round =>
    obtain ⟨rfl, hW⟩ | ⟨rfl, hW⟩ | ⟨rfl, hW⟩ := hrel
    · have hbr := ((HR.out.2.1.trans (hW.mono HR.out.2.1.size)).block rb (Array.getElem?_eq_some_iff.1 HG.out.2.2.2.2.2.2).1).trans HG.out.2.2.2.2.2.2
      have c0 : (wr).cell? ⟨rb, 0, none⟩ = some (.int .u64 a) := by rw [cell_of_block hbr]; rfl
      have c1 : (wr).cell? ⟨rb, 1, none⟩ = some (.int .u64 b) := by rw [cell_of_block hbr]; rfl
      have HW := Lib.hid hW
      clear hW hbr
      go_wp2_with fail
      refine (HG.out.2.2.2.2.1 _ (HR.out.2.1.trans (HW.out.mono HR.out.2.1.size))).mono ?_
      rintro e w5 ⟨rfl, hb5⟩
      have H5 := Lib.hid ((HW.out.trans (hb5.mono HW.out.size)).alloc (HW.out.trans (hb5.mono HW.out.size)).size (.cells #[.int .u64 a0, .int .u64 a1, .int .u64 a2, .int .u64 a3, .int .u64 a4, .int .u64 a5] 274))
      clear hb5
      have hz := HZ.out.1
      go_wp2_with fail
      all_goals exact ⟨Or.inr (Or.inl ⟨rfl, H5.out⟩), by simp [intOf]⟩
    · have hbr := ((HR.out.2.1.trans (hW.mono HR.out.2.1.size)).block rb (Array.getElem?_eq_some_iff.1 HG.out.2.2.2.2.2.2).1).trans HG.out.2.2.2.2.2.2
      have c0 : (wr).cell? ⟨rb, 0, none⟩ = some (.int .u64 a) := by rw [cell_of_block hbr]; rfl
      have c1 : (wr).cell? ⟨rb, 1, none⟩ = some (.int .u64 b) := by rw [cell_of_block hbr]; rfl
      have HW := Lib.hid hW
      clear hW hbr
      go_wp2_with fail
      refine (HG.out.2.2.2.2.2.1 _ (HR.out.2.1.trans (HW.out.mono HR.out.2.1.size))).mono ?_
      rintro e w5 ⟨rfl, hb5⟩
      have H5 := Lib.hid ((HW.out.trans (hb5.mono HW.out.size)).alloc (HW.out.trans (hb5.mono HW.out.size)).size (.cells #[.int .u64 b0, .int .u64 b1, .int .u64 b2, .int .u64 b3, .int .u64 b4, .int .u64 b5] 274))
      clear hb5
      have hz := HZ.out.2
      go_wp2_with fail
      all_goals exact ⟨Or.inr (Or.inr ⟨rfl, H5.out⟩), by simp [intOf]⟩
    · obtain ⟨r2, B2, q2, -⟩ := HR.out
      replace B2 := B2.trans (hW.mono B2.size)
      replace r2 := (hW.block _ (Array.getElem?_eq_some_iff.1 r2).1).trans r2
      replace q2 := (hW.block _ (Array.getElem?_eq_some_iff.1 q2).1).trans q2
      have c0 : (wr).cell? ⟨w.heap.size, 0, none⟩ = some (.pointer none) := by rw [cell_of_block r2]; rfl
      have c1 : (wr).cell? ⟨w.heap.size, 1, none⟩ = some (.nilFunc) := by rw [cell_of_block r2]; rfl
      have c2 : (wr).cell? ⟨w.heap.size, 2, none⟩ = some (.nilFunc) := by rw [cell_of_block r2]; rfl
      have f0 : (wr).frozen? ⟨w.heap.size, 0, none⟩ = false := frozen_of_block r2
      have f1 : (wr).frozen? ⟨w.heap.size, 1, none⟩ = false := frozen_of_block r2
      have f2 : (wr).frozen? ⟨w.heap.size, 2, none⟩ = false := frozen_of_block r2
      have d0 : (wr).cell? ⟨bt, 0, none⟩ = some (.func (.func j) #[] #[]) := by rw [cell_of_block q2]; rfl
      have d1 : (wr).cell? ⟨bt, 1, none⟩ = some (.func (.func c) #[] #[]) := by rw [cell_of_block q2]; rfl
      have HX := Lib.hid (And.intro r2 B2)
      clear r2 B2 q2
      go_wp2_with fail
      have q3 := st3_heap HX.out.1 (PV ps) (.func (.func j) #[] #[]) (.func (.func c) #[] #[])
      have B3 := st3_below HX.out.2 (Nat.le_refl w.heap.size) (PV ps) (.func (.func j) #[] #[]) (.func (.func c) #[] #[])
      generalize (((wr.setCell ⟨w.heap.size, 0, none⟩ (PV ps)).setCell ⟨w.heap.size, 1, none⟩ (.func (.func j) #[] #[])).setCell ⟨w.heap.size, 2, none⟩ (.func (.func c) #[] #[])) = W3 at *
      have e0 : (W3).cell? ⟨w.heap.size, 0, none⟩ = some (PV ps) := by rw [cell_of_block q3]; rfl
      have e1 : (W3).cell? ⟨w.heap.size, 1, none⟩ = some (.func (.func j) #[] #[]) := by rw [cell_of_block q3]; rfl
      have e2 : (W3).cell? ⟨w.heap.size, 2, none⟩ = some (.func (.func c) #[] #[]) := by rw [cell_of_block q3]; rfl
      exact bodyPost_ret (v := .tuple #[.agg #[PV ps, .func (.func j) #[] #[], .func (.func c) #[] #[]], .int .i64 0]) (by simp [results, Tryz.f245, go_sem, e0, e1, e2]) rfl ⟨rfl, B3⟩
end Go.Proofs.YtoaabbnieakidaaGreatDoorR

namespace Go.Proofs.YtoaabbnieakidaaGreatDoorR
open Go.RowKit Go.BigFrame Go.Maps Go.WideMaps Lf

theorem st6_heap {W : World} {b : Nat} {u0 u1 u2 u3 u4 u5 : Value} {t : TypeId} {fr : Nat × Nat} (h : W.heap[b]? = some (.cells #[u0, u1, u2, u3, u4, u5] t fr)) (v0 v1 v2 v3 v4 v5 : Value) : ((((((W.setCell ⟨b, 0, none⟩ (v0)).setCell ⟨b, 1, none⟩ (v1)).setCell ⟨b, 2, none⟩ (v2)).setCell ⟨b, 3, none⟩ (v3)).setCell ⟨b, 4, none⟩ (v4)).setCell ⟨b, 5, none⟩ (v5)).heap[b]? = some (.cells #[v0, v1, v2, v3, v4, v5] t fr) := by
  rw [heap_setCell (heap_setCell (heap_setCell (heap_setCell (heap_setCell (heap_setCell h)))))]
  rfl
theorem st6_below {w W : World} {b : Nat} (h : Below w.heap.size w W) (hb : w.heap.size ≤ b) (v0 v1 v2 v3 v4 v5 : Value) : Below w.heap.size w ((((((W.setCell ⟨b, 0, none⟩ (v0)).setCell ⟨b, 1, none⟩ (v1)).setCell ⟨b, 2, none⟩ (v2)).setCell ⟨b, 3, none⟩ (v3)).setCell ⟨b, 4, none⟩ (v4)).setCell ⟨b, 5, none⟩ (v5)) :=
  (((((h.setCell (p := ⟨b, 0, none⟩) hb _).setCell (p := ⟨b, 1, none⟩) hb _).setCell (p := ⟨b, 2, none⟩) hb _).setCell (p := ⟨b, 3, none⟩) hb _).setCell (p := ⟨b, 4, none⟩) hb _).setCell (p := ⟨b, 5, none⟩) hb _

/-- what a kind's Join is -/
structure JoinsAs (j : FuncId) (jn : Jn) : Prop where
  enter : ∀ (args : Array Value) (w : World), (callFunc j args).run Tryz.prog w = .ok (.enter j args) w
  inv : ∀ {S S' : St} {l m r : Nat} {R : Nat × Nat}, Inv S → jn S l m r = some (R, S') → Inv S'
  mem : ∀ {S S' : St} {l m r : Nat} {R : Nat × Nat}, Inv S → jn S l m r = some (R, S') → R.1 = m ∨ R.1 = l ∨ R.1 = r
  ok : ∀ {S S' : St} {l m r : Nat} {R : Nat × Nat}, jn S l m r = some (R, S') → R.2 = 0
  call : ∀ {w : World} {ps : Nat} {S S' : St} {Y : Nat → Prop} {l m r : Nat} {R : Nat × Nat}, StOn w ps S Y → Inv S → l < 18446744073709551616 → m < 18446744073709551616 → r < 18446744073709551616 → jn S l m r = some (R, S') →
    Calls Tryz.prog j #[PV ps, .int .u64 l, .int .u64 m, .int .u64 r] w fun e w' => e = .returned (.tuple #[.int .u64 R.1, .int .i64 R.2]) ∧ StOn w' ps S' Y ∧ Keep Y w w'

theorem joins_avl : JoinsAs 282 avlOkM where
  enter args w := by go_simp
  inv hi h := (joinM_inv _ _ 100 hi (avlOkM_some h).2.2.2.2.1).1
  mem hi h := (joinM_inv _ _ 100 hi (avlOkM_some h).2.2.2.2.1).2
  ok h := (avlOkM_some h).2.2.2.2.2
  call h hi hl hm hr hR := avl_Join h hi _ _ _ hl hm hr hR

theorem cjoinM_some {j : FuncId} {jn : Jn} (hj : JoinsAs j jn) {S S' : St} {l m r x : Nat} (h : cjoinM jn S l m r = some (x, S')) : jn S l m r = some ((x, 0), S') := by
  unfold cjoinM at h
  obtain ⟨⟨⟨a, b⟩, S1⟩, h1, h2⟩ := Option.map_eq_some_iff.1 h
  have := hj.ok h1
  simp only at this
  subst this
  simp only [if_true] at h2
  injection h2 with e1 e2
  rw [h1, e1, e2]

set_option maxRecDepth 100000 in
set_option maxHeartbeats 800000 in
theorem cut_join {w : World} {ps : Nat} {S S' : St} {Y : Nat → Prop} (h : StOn w ps S Y) (hi : Inv S) {j c : FuncId} {jn : Jn} (hj : JoinsAs j jn) (l m r : Nat) (hl : l < 18446744073709551616) (hm : m < 18446744073709551616) (hr : r < 18446744073709551616) {x : Nat} (hx : cjoinM jn S l m r = some (x, S')) :
    Calls Tryz.prog 372 #[cutV ps j c, .int .u64 l, .int .u64 m, .int .u64 r] w fun e w' => e = .returned (.int .u64 x) ∧ StOn w' ps S' Y ∧ Keep Y w w' := by
  have h1 := cjoinM_some hj hx
  have q0 := heap_alloc_new w (.cells #[PV ps, fnV j, fnV c] 343)
  have B0 := (Below.refl w.heap.size w).alloc (Nat.le_refl _) (.cells #[PV ps, fnV j, fnV c] 343)
  have hc := hj.call (h.below B0) hi hl hm hr h1
  simp only [cutV, fnV] at q0 B0 hc ⊢
  have hen := hj.enter
  have HG := Lib.hid (And.intro hc (And.intro B0 (And.intro q0 h)))
  clear hc q0 B0 h hi hj hx h1
  go_enter Tryz.func372, Tryz.ntmps372
  go_wp2_with fail
  refine HG.out.1.mono ?_
  rintro e w1 ⟨rfl, h1, k1⟩
  have H1 := Lib.hid (And.intro h1 ((Keep.of_below HG.out.2.1 HG.out.2.2.2.yl).trans k1))
  clear h1 k1
  go_wp2_with fail
  go_ret
  exact ⟨rfl, H1.out⟩

set_option maxRecDepth 100000 in
set_option maxHeartbeats 3200000 in
theorem cut_key {w : World} {ps : Nat} {S : St} {Y : Nat → Prop} (h : StOn w ps S Y) (hi : Inv S) {j c : FuncId} (hh : Nat) (hl : hh < 18446744073709551616) {t : List UInt8} (ht : textM S (getNode S hh).1.key = some t) :
    Calls Tryz.prog 375 #[cutV ps j c, .int .u64 hh] w fun e w' => e = .returned (.tuple #[SV t, ndV (getNode S hh).1]) ∧ Below w.heap.size w w' := by
  have hlt := getNode_lt h hh
  have hg := fun W (hW : Below w.heap.size w W) => node_get (h.below hW) hi hh hl
  obtain ⟨⟨⟨k0, k1, k2, k3, k4, k5⟩, er⟩, hE⟩ : ∃ q, getNode S hh = q := ⟨_, rfl⟩
  rw [hE] at hg hlt ht ⊢
  unfold textM at ht
  split at ht
  · cases ht
  rename_i h8
  have ht := Option.some.inj ht
  have hb := fun W (hW : Below w.heap.size w W) => blob_get (h.below hW) hi k0 hlt.key h8
  simp only at hb ht
  rw [ht] at hb
  generalize (getBlob S k0).2 = eb at *
  have q0 := heap_alloc_new w (.cells #[PV ps, fnV j, fnV c] 343)
  have B1 := (Below.refl w.heap.size w).alloc (Nat.le_refl _) (.cells #[PV ps, fnV j, fnV c] 343)
  have Bz := (Below.refl (w.alloc (.cells #[PV ps, fnV j, fnV c] 343)).heap.size (w.alloc (.cells #[PV ps, fnV j, fnV c] 343))).alloc (Nat.le_refl _) (.cells #[.int .u64 0, .int .u64 0, .int .u64 0, .int .u64 0, .int .u64 0, .int .u64 0] 274)
  have q1 := (Bz.block w.heap.size (by simp)).trans q0
  have z1 := heap_alloc_new (w.alloc (.cells #[PV ps, fnV j, fnV c] 343)) (.cells #[.int .u64 0, .int .u64 0, .int .u64 0, .int .u64 0, .int .u64 0, .int .u64 0] 274)
  have B0 := B1.trans (Bz.mono B1.size)
  simp only [World.size_alloc] at z1
  simp only [cutV, fnV, ndV] at B0 hg q1 z1 ⊢
  have HG := Lib.hid (And.intro hg (And.intro hb (And.intro B0 (And.intro q1 z1))))
  clear hg hb B0 h hi hlt hE ht h8 q0 q1 B1 Bz z1
  go_enter Tryz.func375, Tryz.ntmps375
  go_wp2_with fail
  refine (HG.out.1 _ HG.out.2.2.1).mono ?_
  rintro e w1 ⟨rfl, hb1⟩
  have hal := hb1.alloc hb1.size (.cells #[.int .u64 k0, .int .u64 k1, .int .u64 k2, .int .u64 k3, .int .u64 k4, .int .u64 k5] 274)
  have q2 := heap_alloc_new w1 (.cells #[.int .u64 k0, .int .u64 k1, .int .u64 k2, .int .u64 k3, .int .u64 k4, .int .u64 k5] 274)
  have r2 := (hal.block w.heap.size (by simp; omega)).trans HG.out.2.2.2.1
  have z2 := (hal.block (w.heap.size + 1) (by simp)).trans HG.out.2.2.2.2
  have c0 : ((w1.alloc (.cells #[.int .u64 k0, .int .u64 k1, .int .u64 k2, .int .u64 k3, .int .u64 k4, .int .u64 k5] 274))).cell? ⟨w.heap.size, 0, none⟩ = some (PV ps) := by rw [cell_of_block r2]; rfl
  have c1 : ((w1.alloc (.cells #[.int .u64 k0, .int .u64 k1, .int .u64 k2, .int .u64 k3, .int .u64 k4, .int .u64 k5] 274))).cell? ⟨w.heap.size, 1, none⟩ = some (.func (.func j) #[] #[]) := by rw [cell_of_block r2]; rfl
  have c2 : ((w1.alloc (.cells #[.int .u64 k0, .int .u64 k1, .int .u64 k2, .int .u64 k3, .int .u64 k4, .int .u64 k5] 274))).cell? ⟨w.heap.size, 2, none⟩ = some (.func (.func c) #[] #[]) := by rw [cell_of_block r2]; rfl
  have H2 := Lib.hid (And.intro (HG.out.2.2.1.trans (hal.mono HG.out.2.2.1.size)) (And.intro q2 z2))
  clear hb1 hal q2 r2 z2
  go_wp2_with fail
  refine (HG.out.2.1 _ H2.out.1).mono ?_
  rintro e w3 ⟨rfl, hb3⟩
  have q3 := (hb3.block _ (Array.getElem?_eq_some_iff.1 H2.out.2.1).1).trans H2.out.2.1
  have z3 := (hb3.block _ (Array.getElem?_eq_some_iff.1 H2.out.2.2).1).trans H2.out.2.2
  have d0 : (w3).cell? ⟨w1.heap.size, 0, none⟩ = some (.int .u64 k0) := by rw [cell_of_block q3]; rfl
  have d1 : (w3).cell? ⟨w1.heap.size, 1, none⟩ = some (.int .u64 k1) := by rw [cell_of_block q3]; rfl
  have d2 : (w3).cell? ⟨w1.heap.size, 2, none⟩ = some (.int .u64 k2) := by rw [cell_of_block q3]; rfl
  have d3 : (w3).cell? ⟨w1.heap.size, 3, none⟩ = some (.int .u64 k3) := by rw [cell_of_block q3]; rfl
  have d4 : (w3).cell? ⟨w1.heap.size, 4, none⟩ = some (.int .u64 k4) := by rw [cell_of_block q3]; rfl
  have d5 : (w3).cell? ⟨w1.heap.size, 5, none⟩ = some (.int .u64 k5) := by rw [cell_of_block q3]; rfl
  have e0 : (w3).cell? ⟨(w.heap.size + 1), 0, none⟩ = some (.int .u64 0) := by rw [cell_of_block z3]; rfl
  have e1 : (w3).cell? ⟨(w.heap.size + 1), 1, none⟩ = some (.int .u64 0) := by rw [cell_of_block z3]; rfl
  have e2 : (w3).cell? ⟨(w.heap.size + 1), 2, none⟩ = some (.int .u64 0) := by rw [cell_of_block z3]; rfl
  have e3 : (w3).cell? ⟨(w.heap.size + 1), 3, none⟩ = some (.int .u64 0) := by rw [cell_of_block z3]; rfl
  have e4 : (w3).cell? ⟨(w.heap.size + 1), 4, none⟩ = some (.int .u64 0) := by rw [cell_of_block z3]; rfl
  have e5 : (w3).cell? ⟨(w.heap.size + 1), 5, none⟩ = some (.int .u64 0) := by rw [cell_of_block z3]; rfl
  have f0 : (w3).frozen? ⟨(w.heap.size + 1), 0, none⟩ = false := frozen_of_block z3
  have f1 : (w3).frozen? ⟨(w.heap.size + 1), 1, none⟩ = false := frozen_of_block z3
  have f2 : (w3).frozen? ⟨(w.heap.size + 1), 2, none⟩ = false := frozen_of_block z3
  have f3 : (w3).frozen? ⟨(w.heap.size + 1), 3, none⟩ = false := frozen_of_block z3
  have f4 : (w3).frozen? ⟨(w.heap.size + 1), 4, none⟩ = false := frozen_of_block z3
  have f5 : (w3).frozen? ⟨(w.heap.size + 1), 5, none⟩ = false := frozen_of_block z3
  have H3 := Lib.hid (And.intro (H2.out.1.trans (hb3.mono H2.out.1.size)) z3)
  clear hb3 q3 z3
  go_wp2_with fail
  go_region
  go_wp2_with fail
  have q6 : ((((((w3.setCell ⟨(w.heap.size + 1), 0, none⟩ (.int .u64 k0)).setCell ⟨(w.heap.size + 1), 1, none⟩ (.int .u64 k1)).setCell ⟨(w.heap.size + 1), 2, none⟩ (.int .u64 k2)).setCell ⟨(w.heap.size + 1), 3, none⟩ (.int .u64 k3)).setCell ⟨(w.heap.size + 1), 4, none⟩ (.int .u64 k4)).setCell ⟨(w.heap.size + 1), 5, none⟩ (.int .u64 k5)).drew.heap[w.heap.size + 1]? = _ := st6_heap H3.out.2 (.int .u64 k0) (.int .u64 k1) (.int .u64 k2) (.int .u64 k3) (.int .u64 k4) (.int .u64 k5)
  have B6 := (st6_below H3.out.1 (Nat.le_succ w.heap.size) (.int .u64 k0) (.int .u64 k1) (.int .u64 k2) (.int .u64 k3) (.int .u64 k4) (.int .u64 k5)).drew
  generalize ((((((w3.setCell ⟨(w.heap.size + 1), 0, none⟩ (.int .u64 k0)).setCell ⟨(w.heap.size + 1), 1, none⟩ (.int .u64 k1)).setCell ⟨(w.heap.size + 1), 2, none⟩ (.int .u64 k2)).setCell ⟨(w.heap.size + 1), 3, none⟩ (.int .u64 k3)).setCell ⟨(w.heap.size + 1), 4, none⟩ (.int .u64 k4)).setCell ⟨(w.heap.size + 1), 5, none⟩ (.int .u64 k5)).drew = W6 at *
  have g0 : (W6).cell? ⟨(w.heap.size + 1), 0, none⟩ = some (.int .u64 k0) := by rw [cell_of_block q6]; rfl
  have g1 : (W6).cell? ⟨(w.heap.size + 1), 1, none⟩ = some (.int .u64 k1) := by rw [cell_of_block q6]; rfl
  have g2 : (W6).cell? ⟨(w.heap.size + 1), 2, none⟩ = some (.int .u64 k2) := by rw [cell_of_block q6]; rfl
  have g3 : (W6).cell? ⟨(w.heap.size + 1), 3, none⟩ = some (.int .u64 k3) := by rw [cell_of_block q6]; rfl
  have g4 : (W6).cell? ⟨(w.heap.size + 1), 4, none⟩ = some (.int .u64 k4) := by rw [cell_of_block q6]; rfl
  have g5 : (W6).cell? ⟨(w.heap.size + 1), 5, none⟩ = some (.int .u64 k5) := by rw [cell_of_block q6]; rfl
  exact bodyPost_ret (v := .tuple #[SV t, .agg #[.int .u64 k0, .int .u64 k1, .int .u64 k2, .int .u64 k3, .int .u64 k4, .int .u64 k5]]) (by simp [results, Tryz.f375, go_sem, g0, g1, g2, g3, g4, g5]) rfl ⟨rfl, B6⟩
end Go.Proofs.YtoaabbnieakidaaGreatDoorR
