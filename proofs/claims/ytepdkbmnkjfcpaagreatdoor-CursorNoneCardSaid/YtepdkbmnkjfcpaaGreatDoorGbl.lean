/- Trees balanced by two colours: get, black, red, is, put: the walks. -/
import Derived.Test.YtepdkbmnkjfcpaaGreatDoorGbc
namespace Go.Proofs.YtepdkbmnkjfcpaaGreatDoor
open Go.RowKit Go.BigFrame Go.Maps Go.WideMaps Lf

theorem fld4 (a0 a1 a2 a3 a4 a5 : Value) (w : World) : (Instr.field 183 (.agg #[a0, a1, a2, a3, a4, a5]) 4).run Tryz.prog w = .ok a4 w := by kernel_rfl
def Lf.blackT (S : St) (h : Nat) : Nat := (getNode S h).1.mark / 2
def Lf.redT (S : St) (h : Nat) : Bool := decide ((getNode S h).1.mark % 2 = 1)
/-- a node with two sides and a colour -/
def Lf.putRM (S : St) (h l r : Nat) (isRed : Bool) : Option St :=
  match sizeM S l, sizeM S r with
  | some x, some y => if 4611686018427387904 ≤ blackT S l then none else
    some (putNode S h { (getNode S h).1 with left := l, right := r, mark := blackT S l * 2 + (if isRed then 1 else 2), size := x + y + 1 }).2
  | _, _ => none
theorem putRM_some {S S' : St} {h l r : Nat} {c : Bool} (hp : putRM S h l r c = some S') : ∃ x y, sizeM S l = some x ∧ sizeM S r = some y ∧ blackT S l < 4611686018427387904 ∧
    S' = (putNode S h { (getNode S h).1 with left := l, right := r, mark := blackT S l * 2 + (if c then 1 else 2), size := x + y + 1 }).2 := by
  unfold putRM at hp
  split at hp
  · rename_i x y h1 h2
    split at hp
    · cases hp
    · exact ⟨x, y, h1, h2, by omega, (Option.some.inj hp).symm⟩
  · cases hp

set_option maxRecDepth 100000 in
set_option maxHeartbeats 1600000 in
theorem rb_get {w : World} {ps : Nat} {S : St} {Y : Nat → Prop} (h : StOn w ps S Y) (hi : Inv S) (hh : Nat) (hl : hh < 18446744073709551616) :
    Calls Tryz.prog 235 #[PV ps, .int .u64 hh] w fun e w' => e = .returned (ndV (getNode S hh).1) ∧ Below w.heap.size w w' := by
  have B0 := (Below.refl w.heap.size w).alloc (Nat.le_refl _) (.cells #[.int .u64 0, .int .u64 0, .int .u64 0, .int .u64 0, .int .u64 0, .int .u64 0] 183)
  have q0 := heap_alloc_new w (.cells #[.int .u64 0, .int .u64 0, .int .u64 0, .int .u64 0, .int .u64 0, .int .u64 0] 183)
  have hg := node_get (h.below B0) hi hh hl
  obtain ⟨⟨⟨k0, k1, k2, k3, k4, k5⟩, er⟩, hE⟩ : ∃ r, getNode S hh = r := ⟨_, rfl⟩
  rw [hE] at hg ⊢
  unfold ndV at hg ⊢
  simp only at hg ⊢
  have HG := Lib.hid (And.intro hg (And.intro B0 q0))
  clear hg h hi hE B0 q0
  go_enter Tryz.func235, Tryz.ntmps235
  go_wp2_with fail
  refine HG.out.1.mono ?_
  rintro e w1 ⟨rfl, hb⟩
  have hal := hb.alloc hb.size (.cells #[.int .u64 k0, .int .u64 k1, .int .u64 k2, .int .u64 k3, .int .u64 k4, .int .u64 k5] 183)
  have r0 := (hal.block w.heap.size (by simp)).trans HG.out.2.2
  have B1 := HG.out.2.1.trans (hal.mono HG.out.2.1.size)
  have c0 : ((w1.alloc (.cells #[.int .u64 k0, .int .u64 k1, .int .u64 k2, .int .u64 k3, .int .u64 k4, .int .u64 k5] 183))).cell? ⟨w.heap.size, 0, none⟩ = some (.int .u64 0) := by rw [cell_of_block r0]; rfl
  have c1 : ((w1.alloc (.cells #[.int .u64 k0, .int .u64 k1, .int .u64 k2, .int .u64 k3, .int .u64 k4, .int .u64 k5] 183))).cell? ⟨w.heap.size, 1, none⟩ = some (.int .u64 0) := by rw [cell_of_block r0]; rfl
  have c2 : ((w1.alloc (.cells #[.int .u64 k0, .int .u64 k1, .int .u64 k2, .int .u64 k3, .int .u64 k4, .int .u64 k5] 183))).cell? ⟨w.heap.size, 2, none⟩ = some (.int .u64 0) := by rw [cell_of_block r0]; rfl
  have c3 : ((w1.alloc (.cells #[.int .u64 k0, .int .u64 k1, .int .u64 k2, .int .u64 k3, .int .u64 k4, .int .u64 k5] 183))).cell? ⟨w.heap.size, 3, none⟩ = some (.int .u64 0) := by rw [cell_of_block r0]; rfl
  have c4 : ((w1.alloc (.cells #[.int .u64 k0, .int .u64 k1, .int .u64 k2, .int .u64 k3, .int .u64 k4, .int .u64 k5] 183))).cell? ⟨w.heap.size, 4, none⟩ = some (.int .u64 0) := by rw [cell_of_block r0]; rfl
  have c5 : ((w1.alloc (.cells #[.int .u64 k0, .int .u64 k1, .int .u64 k2, .int .u64 k3, .int .u64 k4, .int .u64 k5] 183))).cell? ⟨w.heap.size, 5, none⟩ = some (.int .u64 0) := by rw [cell_of_block r0]; rfl
  have f0 : ((w1.alloc (.cells #[.int .u64 k0, .int .u64 k1, .int .u64 k2, .int .u64 k3, .int .u64 k4, .int .u64 k5] 183))).frozen? ⟨w.heap.size, 0, none⟩ = false := frozen_of_block r0
  have f1 : ((w1.alloc (.cells #[.int .u64 k0, .int .u64 k1, .int .u64 k2, .int .u64 k3, .int .u64 k4, .int .u64 k5] 183))).frozen? ⟨w.heap.size, 1, none⟩ = false := frozen_of_block r0
  have f2 : ((w1.alloc (.cells #[.int .u64 k0, .int .u64 k1, .int .u64 k2, .int .u64 k3, .int .u64 k4, .int .u64 k5] 183))).frozen? ⟨w.heap.size, 2, none⟩ = false := frozen_of_block r0
  have f3 : ((w1.alloc (.cells #[.int .u64 k0, .int .u64 k1, .int .u64 k2, .int .u64 k3, .int .u64 k4, .int .u64 k5] 183))).frozen? ⟨w.heap.size, 3, none⟩ = false := frozen_of_block r0
  have f4 : ((w1.alloc (.cells #[.int .u64 k0, .int .u64 k1, .int .u64 k2, .int .u64 k3, .int .u64 k4, .int .u64 k5] 183))).frozen? ⟨w.heap.size, 4, none⟩ = false := frozen_of_block r0
  have f5 : ((w1.alloc (.cells #[.int .u64 k0, .int .u64 k1, .int .u64 k2, .int .u64 k3, .int .u64 k4, .int .u64 k5] 183))).frozen? ⟨w.heap.size, 5, none⟩ = false := frozen_of_block r0
  have HB := Lib.hid (And.intro r0 B1)
  clear r0 B1 hal hb
  go_wp2_with fail
  have q6 := st6_heap HB.out.1 (.int .u64 k0) (.int .u64 k1) (.int .u64 k2) (.int .u64 k3) (.int .u64 k4) (.int .u64 k5)
  have B6 := st6_below HB.out.2 (Nat.le_refl w.heap.size) (.int .u64 k0) (.int .u64 k1) (.int .u64 k2) (.int .u64 k3) (.int .u64 k4) (.int .u64 k5)
  generalize (((((((w1.alloc (.cells #[.int .u64 k0, .int .u64 k1, .int .u64 k2, .int .u64 k3, .int .u64 k4, .int .u64 k5] 183)).setCell ⟨w.heap.size, 0, none⟩ (.int .u64 k0)).setCell ⟨w.heap.size, 1, none⟩ (.int .u64 k1)).setCell ⟨w.heap.size, 2, none⟩ (.int .u64 k2)).setCell ⟨w.heap.size, 3, none⟩ (.int .u64 k3)).setCell ⟨w.heap.size, 4, none⟩ (.int .u64 k4)).setCell ⟨w.heap.size, 5, none⟩ (.int .u64 k5)) = W6 at q6 B6 ⊢
  have g0 : (W6).cell? ⟨w.heap.size, 0, none⟩ = some (.int .u64 k0) := by rw [cell_of_block q6]; rfl
  have g1 : (W6).cell? ⟨w.heap.size, 1, none⟩ = some (.int .u64 k1) := by rw [cell_of_block q6]; rfl
  have g2 : (W6).cell? ⟨w.heap.size, 2, none⟩ = some (.int .u64 k2) := by rw [cell_of_block q6]; rfl
  have g3 : (W6).cell? ⟨w.heap.size, 3, none⟩ = some (.int .u64 k3) := by rw [cell_of_block q6]; rfl
  have g4 : (W6).cell? ⟨w.heap.size, 4, none⟩ = some (.int .u64 k4) := by rw [cell_of_block q6]; rfl
  have g5 : (W6).cell? ⟨w.heap.size, 5, none⟩ = some (.int .u64 k5) := by rw [cell_of_block q6]; rfl
  exact bodyPost_ret (v := .agg #[.int .u64 k0, .int .u64 k1, .int .u64 k2, .int .u64 k3, .int .u64 k4, .int .u64 k5]) (by simp [results, Tryz.f235, go_sem, g0, g1, g2, g3, g4, g5]) rfl ⟨rfl, B6⟩

set_option maxRecDepth 100000 in
set_option maxHeartbeats 800000 in
theorem rb_black {w : World} {ps : Nat} {S : St} {Y : Nat → Prop} (h : StOn w ps S Y) (hi : Inv S) (hh : Nat) (hl : hh < 18446744073709551616) :
    Calls Tryz.prog 200 #[PV ps, .int .u64 hh] w fun e w' => e = .returned (.int .u64 (blackT S hh : Nat)) ∧ Below w.heap.size w w' := by
  have hg := rb_get h hi hh hl
  unfold blackT
  obtain ⟨⟨⟨k0, k1, k2, k3, k4, k5⟩, er⟩, hE⟩ : ∃ r, getNode S hh = r := ⟨_, rfl⟩
  rw [hE] at hg ⊢
  unfold ndV at hg
  simp only at hg ⊢
  have hfl := fld4
  have HG := Lib.hid hg
  clear hg h hi hE
  go_enter Tryz.func200, Tryz.ntmps200
  go_wp2_with fail
  refine HG.out.mono ?_
  rintro e w1 ⟨rfl, hb⟩
  have HB := Lib.hid hb
  clear hb
  go_wp2_with fail
  go_ret
  exact ⟨by simp, HB.out⟩

set_option maxRecDepth 100000 in
set_option maxHeartbeats 800000 in
theorem rb_red {w : World} {ps : Nat} {S : St} {Y : Nat → Prop} (h : StOn w ps S Y) (hi : Inv S) (hh : Nat) (hl : hh < 18446744073709551616) :
    Calls Tryz.prog 203 #[PV ps, .int .u64 hh] w fun e w' => e = .returned (.bool (redT S hh)) ∧ Below w.heap.size w w' := by
  have hg := rb_get h hi hh hl
  have hlt := (getNode_lt h hh).mark
  unfold redT
  obtain ⟨⟨⟨k0, k1, k2, k3, k4, k5⟩, er⟩, hE⟩ : ∃ r, getNode S hh = r := ⟨_, rfl⟩
  rw [hE] at hg hlt ⊢
  unfold ndV at hg
  simp only at hg hlt ⊢
  have hand : bits BinOp.and IntKind.u64 (k4 : Int) 1 = ((k4 % 2 : Nat) : Int) := by
    have h1 := bits_and_u64_nat k4 1 hlt (by decide)
    rw [show ((1 : Nat) : Int) = 1 from rfl] at h1
    rw [h1, Nat.and_one_is_mod]
  have HA := Lib.hid hand
  clear hand
  have hfl := fld4
  have HG := Lib.hid hg
  clear hg h hi hE
  go_enter Tryz.func203, Tryz.ntmps203
  go_wp2_with fail
  refine HG.out.mono ?_
  rintro e w1 ⟨rfl, hb⟩
  have HB := Lib.hid hb
  clear hb
  go_wp2_with fail
  go_ret
  refine ⟨?_, HB.out⟩
  rw [HA.out]
  rcases Nat.mod_two_eq_zero_or_one k4 with e | e <;> simp [e]

set_option maxRecDepth 100000 in
set_option maxHeartbeats 400000 in
theorem rb_is {w : World} {ps : Nat} {S : St} {Y : Nat → Prop} (h : StOn w ps S Y) (hi : Inv S) (hh : Nat) (hl : hh < 18446744073709551616) :
    Calls Tryz.prog 199 #[PV ps, .int .u64 hh] w fun e w' => e = .returned (.bool (isT S hh)) ∧ Below w.heap.size w w' := by
  have hg := node_get h hi hh hl
  obtain ⟨R, hR⟩ : ∃ R, isT S hh = R := ⟨_, rfl⟩
  rw [hR]
  unfold isT at hR
  obtain ⟨⟨⟨k0, k1, k2, k3, k4, k5⟩, er⟩, hE⟩ : ∃ r, getNode S hh = r := ⟨_, rfl⟩
  rw [hE] at hg hR
  unfold ndV at hg
  simp only at hg hR
  have hR1 : R = (((hh : Int) == 0) || ((er : Int) == 0)) := by
    rw [← hR]
    by_cases a : hh = 0 <;> by_cases b : er = 0 <;> simp [a, b] <;> omega
  have HG := Lib.hid (And.intro hg hR1)
  clear hg h hi hE hR hR1
  by_cases h0 : hh = 0
  · subst h0
    go_enter Tryz.func199, Tryz.ntmps199
    go_wp2_with fail
    refine HG.out.1.mono ?_
    rintro e w1 ⟨rfl, hb⟩
    have HB := Lib.hid (hb.alloc hb.size (.cells #[.int .u64 k0, .int .u64 k1, .int .u64 k2, .int .u64 k3, .int .u64 k4, .int .u64 k5] 183))
    clear hb
    go_wp2_with fail
    go_ret
    obtain rfl := HG.out.2
    exact ⟨by simp, HB.out⟩
  · have hq : ((hh : Int) == 0) = false := by simp; omega
    go_enter Tryz.func199, Tryz.ntmps199
    go_wp2_with fail
    refine HG.out.1.mono ?_
    rintro e w1 ⟨rfl, hb⟩
    have HB := Lib.hid (hb.alloc hb.size (.cells #[.int .u64 k0, .int .u64 k1, .int .u64 k2, .int .u64 k3, .int .u64 k4, .int .u64 k5] 183))
    clear hb
    go_wp2_with fail
    go_ret
    obtain rfl := HG.out.2
    exact ⟨by simp [hq], HB.out⟩

set_option maxRecDepth 100000 in
set_option maxHeartbeats 3200000 in
theorem rb_put {w : World} {ps : Nat} {S S' : St} {Y : Nat → Prop} (h : StOn w ps S Y) (hi : Inv S) (hh l r : Nat) (c : Bool) (hl : hh < 18446744073709551616) (hll : l < 18446744073709551616) (hrl : r < 18446744073709551616) (hp : putRM S hh l r c = some S') :
    Calls Tryz.prog 202 #[PV ps, .int .u64 hh, .int .u64 l, .int .u64 r, .bool c] w fun e w' => e = .returned (.int .u64 hh) ∧ StOn w' ps S' Y ∧ Keep Y w w' := by
  obtain ⟨x, y, h1, h2, hbk, rfl⟩ := putRM_some hp
  have hx : x < 4611686018427387904 := by have := num_some h1; omega
  have hy : y < 4611686018427387904 := by have := num_some h2; omega
  have hnl := getNode_lt h hh
  have hg := rb_get h hi hh hl
  have hb := fun W (hW : Below w.heap.size w W) => rb_black (h.below hW) hi l hll
  have hZ1 := fun W (hW : Below w.heap.size w W) => walk_size (h.below hW) hi l hll h1
  have hZ2 := fun W (hW : Below w.heap.size w W) => walk_size (h.below hW) hi r hrl h2
  generalize blackT S l = bk at *
  obtain ⟨⟨⟨k0, k1, k2, k3, k4, k5⟩, er⟩, hE⟩ : ∃ q, getNode S hh = q := ⟨_, rfl⟩
  rw [hE] at hg hnl ⊢
  simp only at hnl ⊢
  have hpu := fun W Z (hW : StOn W ps S Z) => node_put hW hi hh hl ⟨k0, k1, l, r, bk * 2 + (if c then 1 else 2), x + y + 1⟩ ⟨hnl.key, hnl.val, hll, hrl, by simp only; split <;> omega, by simp only; omega⟩
  have hnd : ndV ⟨k0, k1, l, r, bk * 2 + (if c then 1 else 2), x + y + 1⟩ = .agg #[.int .u64 k0, .int .u64 k1, .int .u64 l, .int .u64 r, .int .u64 ((bk * 2 + (if c then 1 else 2) : Nat) : Int), .int .u64 ((x : Int) + y + 1)] := by simp [ndV]
  rw [hnd] at hpu
  unfold ndV at hg
  simp only at hg
  have HG := Lib.hid (And.intro hg (And.intro hb (And.intro hZ1 (And.intro hZ2 (And.intro hpu h)))))
  have hs1 : IntKind.u64.wrap ((bk : Int) * 2) = (bk : Int) * 2 := by rw [IntKind.wrap_u64]; omega
  have hs2 : IntKind.u64.wrap ((bk : Int) * 2 + 2) = (bk : Int) * 2 + 2 := by rw [IntKind.wrap_u64]; omega
  have hor : bits BinOp.or IntKind.u64 ((bk : Int) * 2) 1 = (bk : Int) * 2 + 1 := by
    rw [show ((bk : Int) * 2) = ((bk * 2 : Nat) : Int) by simp, show (1 : Int) = ((1 : Nat) : Int) from rfl, bits_or_u64_nat _ _ (by omega) (by decide)]
    have : bk * 2 ||| 1 = bk * 2 + 1 := by
      rw [show bk * 2 = bk <<< 1 by simp [Nat.shiftLeft_eq]]
      exact (Nat.shiftLeft_add_eq_or_of_lt (by decide) bk).symm
    omega
  clear hg hb hZ1 hZ2 hpu hnd h hi hE hp h1 h2 hnl
  cases c with
  | true =>
    simp only [if_true] at HG ⊢
    go_enter Tryz.func202, Tryz.ntmps202
    go_wp2_with fail
    refine HG.out.1.mono ?_
    rintro e w1 ⟨rfl, hb1⟩
    have q1 := heap_alloc_new w1 (.cells #[.int .u64 k0, .int .u64 k1, .int .u64 l, .int .u64 r, .int .u64 k4, .int .u64 k5] 183)
    have B1 := hb1.alloc hb1.size (.cells #[.int .u64 k0, .int .u64 k1, .int .u64 l, .int .u64 r, .int .u64 k4, .int .u64 k5] 183)
    have z1 := hb1.size
    clear hb1
    go_wp2_with fail
    generalize w1.alloc (.cells #[.int .u64 k0, .int .u64 k1, .int .u64 l, .int .u64 r, .int .u64 k4, .int .u64 k5] 183) = W at *
    generalize w1.heap.size = b at *
    refine (HG.out.2.1 _ B1).mono ?_
    rintro e w2 ⟨rfl, hb2⟩
    have r2 := (hb2.block b (Array.getElem?_eq_some_iff.1 q1).1).trans q1
    have c0 : (w2).cell? ⟨b, 0, none⟩ = some (.int .u64 k0) := by rw [cell_of_block r2]; rfl
    have c1 : (w2).cell? ⟨b, 1, none⟩ = some (.int .u64 k1) := by rw [cell_of_block r2]; rfl
    have c2 : (w2).cell? ⟨b, 2, none⟩ = some (.int .u64 l) := by rw [cell_of_block r2]; rfl
    have c3 : (w2).cell? ⟨b, 3, none⟩ = some (.int .u64 r) := by rw [cell_of_block r2]; rfl
    have c4 : (w2).cell? ⟨b, 4, none⟩ = some (.int .u64 k4) := by rw [cell_of_block r2]; rfl
    have c5 : (w2).cell? ⟨b, 5, none⟩ = some (.int .u64 k5) := by rw [cell_of_block r2]; rfl
    have f0 : (w2).frozen? ⟨b, 0, none⟩ = false := frozen_of_block r2
    have f1 : (w2).frozen? ⟨b, 1, none⟩ = false := frozen_of_block r2
    have f2 : (w2).frozen? ⟨b, 2, none⟩ = false := frozen_of_block r2
    have f3 : (w2).frozen? ⟨b, 3, none⟩ = false := frozen_of_block r2
    have f4 : (w2).frozen? ⟨b, 4, none⟩ = false := frozen_of_block r2
    have f5 : (w2).frozen? ⟨b, 5, none⟩ = false := frozen_of_block r2
    have H2 := Lib.hid (And.intro (B1.trans (hb2.mono B1.size)) (And.intro r2 z1))
    clear hb2 r2 B1 q1 z1
    go_wp2_with fail
    have r3 : ((w2.setCell ⟨b, 4, none⟩ (.int .u64 ((bk : Int) * 2))).setCell ⟨b, 4, none⟩ (.int .u64 ((bk : Int) * 2 + 1))).heap[b]? = some (.cells #[.int .u64 k0, .int .u64 k1, .int .u64 l, .int .u64 r, .int .u64 ((bk : Int) * 2 + 1), .int .u64 k5] 183) := by rw [heap_setCell (heap_setCell H2.out.2.1)]; rfl
    have B3 := (H2.out.1.setCell (p := ⟨b, 4, none⟩) H2.out.2.2 (.int .u64 ((bk : Int) * 2))).setCell (p := ⟨b, 4, none⟩) H2.out.2.2 (.int .u64 ((bk : Int) * 2 + 1))
    generalize ((w2.setCell ⟨b, 4, none⟩ (.int .u64 ((bk : Int) * 2))).setCell ⟨b, 4, none⟩ (.int .u64 ((bk : Int) * 2 + 1))) = w3 at *
    clear c0 c1 c2 c3 c4 c5 f0 f1 f2 f3 f4 f5
    refine (HG.out.2.2.1 _ B3).mono ?_
    rintro e w4 ⟨rfl, hb4⟩
    have H4 := Lib.hid (And.intro (B3.trans (hb4.mono B3.size)) ((hb4.block b (Array.getElem?_eq_some_iff.1 r3).1).trans r3))
    clear hb4 r3 B3
    go_wp2_with fail
    refine (HG.out.2.2.2.1 _ H4.out.1).mono ?_
    rintro e w5 ⟨rfl, hb5⟩
    have r5 := (hb5.block b (Array.getElem?_eq_some_iff.1 H4.out.2).1).trans H4.out.2
    have c0 : (w5).cell? ⟨b, 0, none⟩ = some (.int .u64 k0) := by rw [cell_of_block r5]; rfl
    have c1 : (w5).cell? ⟨b, 1, none⟩ = some (.int .u64 k1) := by rw [cell_of_block r5]; rfl
    have c2 : (w5).cell? ⟨b, 2, none⟩ = some (.int .u64 l) := by rw [cell_of_block r5]; rfl
    have c3 : (w5).cell? ⟨b, 3, none⟩ = some (.int .u64 r) := by rw [cell_of_block r5]; rfl
    have c4 : (w5).cell? ⟨b, 4, none⟩ = some (.int .u64 ((bk : Int) * 2 + 1)) := by rw [cell_of_block r5]; rfl
    have c5 : (w5).cell? ⟨b, 5, none⟩ = some (.int .u64 k5) := by rw [cell_of_block r5]; rfl
    have f0 : (w5).frozen? ⟨b, 0, none⟩ = false := frozen_of_block r5
    have f1 : (w5).frozen? ⟨b, 1, none⟩ = false := frozen_of_block r5
    have f2 : (w5).frozen? ⟨b, 2, none⟩ = false := frozen_of_block r5
    have f3 : (w5).frozen? ⟨b, 3, none⟩ = false := frozen_of_block r5
    have f4 : (w5).frozen? ⟨b, 4, none⟩ = false := frozen_of_block r5
    have f5 : (w5).frozen? ⟨b, 5, none⟩ = false := frozen_of_block r5
    have H5 := Lib.hid (And.intro (H4.out.1.trans (hb5.mono H4.out.1.size)) r5)
    clear hb5 r5
    go_wp2_with fail
    have r6 : (w5.setCell ⟨b, 5, none⟩ (.int .u64 ((x : Int) + y + 1))).heap[b]? = some (.cells #[.int .u64 k0, .int .u64 k1, .int .u64 l, .int .u64 r, .int .u64 ((bk : Int) * 2 + 1), .int .u64 ((x : Int) + y + 1)] 183) := heap_setCell H5.out.2
    have B6 := H5.out.1.setCell (p := ⟨b, 5, none⟩) H2.out.2.2 (.int .u64 ((x : Int) + y + 1))
    refine (HG.out.2.2.2.2.1 _ _ (HG.out.2.2.2.2.2.wide B6)).mono ?_
    rintro e w7 ⟨rfl, h7, k7⟩
    have H7 := Lib.hid (And.intro (h7.mono (Z := Y) fun k hk => Or.inl hk) ((Keep.of_below B6 HG.out.2.2.2.2.2.yl).trans (k7.mono fun k hk => Or.inl hk)))
    clear h7 k7 r6 B6 c0 c1 c2 c3 c4 c5 f0 f1 f2 f3 f4 f5
    go_wp2_with fail
    go_ret
    exact ⟨rfl, H7.out⟩
  | false =>
    simp only [Bool.false_eq_true, if_false] at HG ⊢
    go_enter Tryz.func202, Tryz.ntmps202
    go_wp2_with fail
    refine HG.out.1.mono ?_
    rintro e w1 ⟨rfl, hb1⟩
    have q1 := heap_alloc_new w1 (.cells #[.int .u64 k0, .int .u64 k1, .int .u64 l, .int .u64 r, .int .u64 k4, .int .u64 k5] 183)
    have B1 := hb1.alloc hb1.size (.cells #[.int .u64 k0, .int .u64 k1, .int .u64 l, .int .u64 r, .int .u64 k4, .int .u64 k5] 183)
    have z1 := hb1.size
    clear hb1
    go_wp2_with fail
    generalize w1.alloc (.cells #[.int .u64 k0, .int .u64 k1, .int .u64 l, .int .u64 r, .int .u64 k4, .int .u64 k5] 183) = W at *
    generalize w1.heap.size = b at *
    refine (HG.out.2.1 _ B1).mono ?_
    rintro e w2 ⟨rfl, hb2⟩
    have r2 := (hb2.block b (Array.getElem?_eq_some_iff.1 q1).1).trans q1
    have c0 : (w2).cell? ⟨b, 0, none⟩ = some (.int .u64 k0) := by rw [cell_of_block r2]; rfl
    have c1 : (w2).cell? ⟨b, 1, none⟩ = some (.int .u64 k1) := by rw [cell_of_block r2]; rfl
    have c2 : (w2).cell? ⟨b, 2, none⟩ = some (.int .u64 l) := by rw [cell_of_block r2]; rfl
    have c3 : (w2).cell? ⟨b, 3, none⟩ = some (.int .u64 r) := by rw [cell_of_block r2]; rfl
    have c4 : (w2).cell? ⟨b, 4, none⟩ = some (.int .u64 k4) := by rw [cell_of_block r2]; rfl
    have c5 : (w2).cell? ⟨b, 5, none⟩ = some (.int .u64 k5) := by rw [cell_of_block r2]; rfl
    have f0 : (w2).frozen? ⟨b, 0, none⟩ = false := frozen_of_block r2
    have f1 : (w2).frozen? ⟨b, 1, none⟩ = false := frozen_of_block r2
    have f2 : (w2).frozen? ⟨b, 2, none⟩ = false := frozen_of_block r2
    have f3 : (w2).frozen? ⟨b, 3, none⟩ = false := frozen_of_block r2
    have f4 : (w2).frozen? ⟨b, 4, none⟩ = false := frozen_of_block r2
    have f5 : (w2).frozen? ⟨b, 5, none⟩ = false := frozen_of_block r2
    have H2 := Lib.hid (And.intro (B1.trans (hb2.mono B1.size)) (And.intro r2 z1))
    clear hb2 r2 B1 q1 z1
    go_wp2_with fail
    have r3 : ((w2.setCell ⟨b, 4, none⟩ (.int .u64 ((bk : Int) * 2))).setCell ⟨b, 4, none⟩ (.int .u64 ((bk : Int) * 2 + 2))).heap[b]? = some (.cells #[.int .u64 k0, .int .u64 k1, .int .u64 l, .int .u64 r, .int .u64 ((bk : Int) * 2 + 2), .int .u64 k5] 183) := by rw [heap_setCell (heap_setCell H2.out.2.1)]; rfl
    have B3 := (H2.out.1.setCell (p := ⟨b, 4, none⟩) H2.out.2.2 (.int .u64 ((bk : Int) * 2))).setCell (p := ⟨b, 4, none⟩) H2.out.2.2 (.int .u64 ((bk : Int) * 2 + 2))
    generalize ((w2.setCell ⟨b, 4, none⟩ (.int .u64 ((bk : Int) * 2))).setCell ⟨b, 4, none⟩ (.int .u64 ((bk : Int) * 2 + 2))) = w3 at *
    clear c0 c1 c2 c3 c4 c5 f0 f1 f2 f3 f4 f5
    refine (HG.out.2.2.1 _ B3).mono ?_
    rintro e w4 ⟨rfl, hb4⟩
    have H4 := Lib.hid (And.intro (B3.trans (hb4.mono B3.size)) ((hb4.block b (Array.getElem?_eq_some_iff.1 r3).1).trans r3))
    clear hb4 r3 B3
    go_wp2_with fail
    refine (HG.out.2.2.2.1 _ H4.out.1).mono ?_
    rintro e w5 ⟨rfl, hb5⟩
    have r5 := (hb5.block b (Array.getElem?_eq_some_iff.1 H4.out.2).1).trans H4.out.2
    have c0 : (w5).cell? ⟨b, 0, none⟩ = some (.int .u64 k0) := by rw [cell_of_block r5]; rfl
    have c1 : (w5).cell? ⟨b, 1, none⟩ = some (.int .u64 k1) := by rw [cell_of_block r5]; rfl
    have c2 : (w5).cell? ⟨b, 2, none⟩ = some (.int .u64 l) := by rw [cell_of_block r5]; rfl
    have c3 : (w5).cell? ⟨b, 3, none⟩ = some (.int .u64 r) := by rw [cell_of_block r5]; rfl
    have c4 : (w5).cell? ⟨b, 4, none⟩ = some (.int .u64 ((bk : Int) * 2 + 2)) := by rw [cell_of_block r5]; rfl
    have c5 : (w5).cell? ⟨b, 5, none⟩ = some (.int .u64 k5) := by rw [cell_of_block r5]; rfl
    have f0 : (w5).frozen? ⟨b, 0, none⟩ = false := frozen_of_block r5
    have f1 : (w5).frozen? ⟨b, 1, none⟩ = false := frozen_of_block r5
    have f2 : (w5).frozen? ⟨b, 2, none⟩ = false := frozen_of_block r5
    have f3 : (w5).frozen? ⟨b, 3, none⟩ = false := frozen_of_block r5
    have f4 : (w5).frozen? ⟨b, 4, none⟩ = false := frozen_of_block r5
    have f5 : (w5).frozen? ⟨b, 5, none⟩ = false := frozen_of_block r5
    have H5 := Lib.hid (And.intro (H4.out.1.trans (hb5.mono H4.out.1.size)) r5)
    clear hb5 r5
    go_wp2_with fail
    have r6 : (w5.setCell ⟨b, 5, none⟩ (.int .u64 ((x : Int) + y + 1))).heap[b]? = some (.cells #[.int .u64 k0, .int .u64 k1, .int .u64 l, .int .u64 r, .int .u64 ((bk : Int) * 2 + 2), .int .u64 ((x : Int) + y + 1)] 183) := heap_setCell H5.out.2
    have B6 := H5.out.1.setCell (p := ⟨b, 5, none⟩) H2.out.2.2 (.int .u64 ((x : Int) + y + 1))
    refine (HG.out.2.2.2.2.1 _ _ (HG.out.2.2.2.2.2.wide B6)).mono ?_
    rintro e w7 ⟨rfl, h7, k7⟩
    have H7 := Lib.hid (And.intro (h7.mono (Z := Y) fun k hk => Or.inl hk) ((Keep.of_below B6 HG.out.2.2.2.2.2.yl).trans (k7.mono fun k hk => Or.inl hk)))
    clear h7 k7 r6 B6 c0 c1 c2 c3 c4 c5 f0 f1 f2 f3 f4 f5
    go_wp2_with fail
    go_ret
    exact ⟨rfl, H7.out⟩
end Go.Proofs.YtepdkbmnkjfcpaaGreatDoor
