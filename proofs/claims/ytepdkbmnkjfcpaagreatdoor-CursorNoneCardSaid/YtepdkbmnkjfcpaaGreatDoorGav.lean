/- Nodes: Put, Make: the walks. What walks, joined trees and their parts compute, where all is well (none: not looked at here): plain Lean, no program in sight. -/
import Derived.Test.YtepdkbmnkjfcpaaGreatDoorGau
import Derived.Test.YtepdkbmnkjfcpaaGreatDoorGam
namespace Go.Proofs.YtepdkbmnkjfcpaaGreatDoor
open Go.RowKit Go.BigFrame Go.Maps Go.WideMaps Lf

def ndL (n : Nd) : List Nat := [n.key, n.val, n.left, n.right, n.mark, n.size]
def NPut (ps hh : Nat) (n : Nd) (Y : Nat → Prop) (w2 : World) (F : St) (k : Nat) (wr : World) : Prop := ∃ Sk, StOn wr ps Sk Y ∧ Inv Sk ∧ putWords Sk hh k ((ndL n).drop k) = F ∧ Keep Y w2 wr
theorem NPut.step {ps hh : Nat} {n : Nd} {Y : Nat → Prop} {w2 : World} {F : St} {k : Nat} {wr : World} (h : NPut ps hh n Y w2 F k wr) (hl : hh < 18446744073709551616) (x : Nat) (hx : x < 18446744073709551616) (hk : k < 6) (hxk : (ndL n)[k]? = some x) :
    Calls Tryz.prog 121 #[PV ps, .int .u64 hh, .int .i64 k, .int .u64 x] wr fun e w' => ∃ er : Int, e = .returned (.int .i64 er) ∧ NPut ps hh n Y w2 F (k + 1) w' := by
  obtain ⟨Sk, h1, h2, h3, h4⟩ := h
  refine (st_put h1 h2 hh k x hl (by omega) hx).mono ?_
  rintro e w' ⟨rfl, h5, h6⟩
  obtain ⟨hlt, hv⟩ := List.getElem?_eq_some_iff.1 hxk
  rw [List.drop_eq_getElem_cons hlt, hv] at h3
  exact ⟨_, rfl, _, h5, h2.put hh k x, h3, h4.trans h6⟩

theorem ix6 (a0 a1 a2 a3 a4 a5 : Value) (w : World) :
    (Instr.index 237 (.agg #[a0, a1, a2, a3, a4, a5]) (.int .i64 0)).run Tryz.prog w = .ok a0 w ∧
    (Instr.index 237 (.agg #[a0, a1, a2, a3, a4, a5]) (.int .i64 1)).run Tryz.prog w = .ok a1 w ∧
    (Instr.index 237 (.agg #[a0, a1, a2, a3, a4, a5]) (.int .i64 2)).run Tryz.prog w = .ok a2 w ∧
    (Instr.index 237 (.agg #[a0, a1, a2, a3, a4, a5]) (.int .i64 3)).run Tryz.prog w = .ok a3 w ∧
    (Instr.index 237 (.agg #[a0, a1, a2, a3, a4, a5]) (.int .i64 4)).run Tryz.prog w = .ok a4 w ∧
    (Instr.index 237 (.agg #[a0, a1, a2, a3, a4, a5]) (.int .i64 5)).run Tryz.prog w = .ok a5 w := by
  refine ⟨?_, ?_, ?_, ?_, ?_, ?_⟩ <;> kernel_rfl

set_option maxRecDepth 100000 in
set_option maxHeartbeats 3200000 in
theorem node_put {w : World} {ps : Nat} {S : St} {Y : Nat → Prop} (h : StOn w ps S Y) (hi : Inv S) (hh : Nat) (hl : hh < 18446744073709551616) (n : Nd) (hn : NdLt n) :
    Calls Tryz.prog 195 #[PV ps, .int .u64 hh, ndV n] w fun e w' => e = .returned (.int .i64 ((putNode S hh n).1 : Nat)) ∧ StOn w' ps (putNode S hh n).2 Y ∧ Keep Y w w' := by
  have hY := h.yl
  obtain ⟨R, hR⟩ : ∃ R, putNode S hh n = R := ⟨_, rfl⟩
  rw [hR]
  unfold putNode at hR
  have hf := fun W => node_fields n W
  have hP : ∀ {F : St} {w2 : World}, True := trivial
  obtain ⟨k0, k1, k2, k3, k4, k5⟩ := n
  obtain ⟨l0, l1, l2, l3, l4, l5⟩ := hn
  simp only at l0 l1 l2 l3 l4 l5
  unfold ndV at hf ⊢
  simp only at hf ⊢
  have hb1 : Below w.heap.size w (w.alloc (.cells #[.int .u64 k0, .int .u64 k1, .int .u64 k2, .int .u64 k3, .int .u64 k4, .int .u64 k5] 183)) := (Below.refl _ w).alloc (Nat.le_refl _) _
  have has := node_asked (h.below hb1) hi hh hl
  obtain ⟨a, ha⟩ : ∃ a, askedN S hh = a := ⟨_, rfl⟩
  rw [ha] at has hR
  cases a with
  | succ a =>
    have hR1 : R = (a + 1, S) := by rw [← hR]; rfl
    have hq1 : (((a + 1 : Nat) : Int) != 0) = true := by simp; omega
    obtain ⟨g1, hg1⟩ : ∃ g1, a + 1 = g1 := ⟨_, rfl⟩
    rw [hg1] at has hR1 hq1
    have HG := Lib.hid (And.intro has (And.intro hR1 (And.intro hb1 h)))
    clear has hR hR1 hg1 h hi ha hf hb1 hY
    go_enter Tryz.func195, Tryz.ntmps195
    go_wp2_with fail
    refine HG.out.1.mono ?_
    rintro e w1 ⟨rfl, rfl⟩
    go_wp2_with fail
    go_ret
    obtain rfl := HG.out.2.1
    exact ⟨rfl, HG.out.2.2.2.below HG.out.2.2.1, HG.out.2.2.2.keep HG.out.2.2.1⟩
  | zero =>
    have hR1 : R = (0, putWords S hh 0 [k0, k1, k2, k3, k4, k5]) := by rw [← hR]; rfl
    have HG := Lib.hid (And.intro has (And.intro hR1 (And.intro hb1 (And.intro h (And.intro hi hf)))))
    clear has hR hR1 h hi ha hf hb1 hY
    go_enter Tryz.func195, Tryz.ntmps195
    go_wp2_with fail
    refine HG.out.1.mono ?_
    rintro e w1 ⟨rfl, rfl⟩
    go_wp2_with fail
    refine (HG.out.2.2.2.2.2 _).mono ?_
    rintro e w2 ⟨rfl, hb2⟩
    have hbb := HG.out.2.2.1.trans (hb2.mono HG.out.2.2.1.size)
    have H0 : NPut ps hh ⟨k0, k1, k2, k3, k4, k5⟩ Y w2 R.2 0 w2 := ⟨S, HG.out.2.2.2.1.below hbb, HG.out.2.2.2.2.1, by rw [HG.out.2.1]; rfl, Keep.refl _ _⟩
    have HB := Lib.hid hbb
    clear hbb hb2
    go_wp2_with fail
    go_loopw [8, 9, 18] (fun _ _ i wr => (i = .int .i64 0 ∧ NPut ps hh ⟨k0, k1, k2, k3, k4, k5⟩ Y w2 R.2 0 wr) ∨ (i = .int .i64 1 ∧ NPut ps hh ⟨k0, k1, k2, k3, k4, k5⟩ Y w2 R.2 1 wr) ∨ (i = .int .i64 2 ∧ NPut ps hh ⟨k0, k1, k2, k3, k4, k5⟩ Y w2 R.2 2 wr) ∨ (i = .int .i64 3 ∧ NPut ps hh ⟨k0, k1, k2, k3, k4, k5⟩ Y w2 R.2 3 wr) ∨ (i = .int .i64 4 ∧ NPut ps hh ⟨k0, k1, k2, k3, k4, k5⟩ Y w2 R.2 4 wr) ∨ (i = .int .i64 5 ∧ NPut ps hh ⟨k0, k1, k2, k3, k4, k5⟩ Y w2 R.2 5 wr) ∨ (i = .int .i64 6 ∧ NPut ps hh ⟨k0, k1, k2, k3, k4, k5⟩ Y w2 R.2 6 wr)) (fun _ _ i _ => 6 - (intOf i).toNat)
    case atStart => exact Or.inl ⟨rfl, H0⟩
    case round =>
      rcases hrel with ⟨rfl, hP⟩ | ⟨rfl, hP⟩ | ⟨rfl, hP⟩ | ⟨rfl, hP⟩ | ⟨rfl, hP⟩ | ⟨rfl, hP⟩ | ⟨rfl, hP⟩
      · have HS := Lib.hid (hP.step hl k0 l0 (by decide) rfl)
        have hix := fun w => (ix6 (.int .u64 k0) (.int .u64 k1) (.int .u64 k2) (.int .u64 k3) (.int .u64 k4) (.int .u64 k5) w).1
        clear hP H0
        go_wp2_with fail
        refine HS.out.mono ?_
        rintro e w3 ⟨er, rfl, hP⟩
        go_wp2_with fail
        go_roundw
        case rel => exact Or.inr (Or.inl ⟨rfl, hP⟩)
        case measure => simp [intOf]
      · have HS := Lib.hid (hP.step hl k1 l1 (by decide) rfl)
        have hix := fun w => (ix6 (.int .u64 k0) (.int .u64 k1) (.int .u64 k2) (.int .u64 k3) (.int .u64 k4) (.int .u64 k5) w).2.1
        clear hP H0
        go_wp2_with fail
        refine HS.out.mono ?_
        rintro e w3 ⟨er, rfl, hP⟩
        go_wp2_with fail
        go_roundw
        case rel => exact Or.inr (Or.inr (Or.inl ⟨rfl, hP⟩))
        case measure => simp [intOf]
      · have HS := Lib.hid (hP.step hl k2 l2 (by decide) rfl)
        have hix := fun w => (ix6 (.int .u64 k0) (.int .u64 k1) (.int .u64 k2) (.int .u64 k3) (.int .u64 k4) (.int .u64 k5) w).2.2.1
        clear hP H0
        go_wp2_with fail
        refine HS.out.mono ?_
        rintro e w3 ⟨er, rfl, hP⟩
        go_wp2_with fail
        go_roundw
        case rel => exact Or.inr (Or.inr (Or.inr (Or.inl ⟨rfl, hP⟩)))
        case measure => simp [intOf]
      · have HS := Lib.hid (hP.step hl k3 l3 (by decide) rfl)
        have hix := fun w => (ix6 (.int .u64 k0) (.int .u64 k1) (.int .u64 k2) (.int .u64 k3) (.int .u64 k4) (.int .u64 k5) w).2.2.2.1
        clear hP H0
        go_wp2_with fail
        refine HS.out.mono ?_
        rintro e w3 ⟨er, rfl, hP⟩
        go_wp2_with fail
        go_roundw
        case rel => exact Or.inr (Or.inr (Or.inr (Or.inr (Or.inl ⟨rfl, hP⟩))))
        case measure => simp [intOf]
      · have HS := Lib.hid (hP.step hl k4 l4 (by decide) rfl)
        have hix := fun w => (ix6 (.int .u64 k0) (.int .u64 k1) (.int .u64 k2) (.int .u64 k3) (.int .u64 k4) (.int .u64 k5) w).2.2.2.2.1
        clear hP H0
        go_wp2_with fail
        refine HS.out.mono ?_
        rintro e w3 ⟨er, rfl, hP⟩
        go_wp2_with fail
        go_roundw
        case rel => exact Or.inr (Or.inr (Or.inr (Or.inr (Or.inr (Or.inl ⟨rfl, hP⟩)))))
        case measure => simp [intOf]
      · have HS := Lib.hid (hP.step hl k5 l5 (by decide) rfl)
        have hix := fun w => (ix6 (.int .u64 k0) (.int .u64 k1) (.int .u64 k2) (.int .u64 k3) (.int .u64 k4) (.int .u64 k5) w).2.2.2.2.2
        clear hP H0
        go_wp2_with fail
        refine HS.out.mono ?_
        rintro e w3 ⟨er, rfl, hP⟩
        go_wp2_with fail
        go_roundw
        case rel => exact Or.inr (Or.inr (Or.inr (Or.inr (Or.inr (Or.inr ⟨rfl, hP⟩)))))
        case measure => simp [intOf]
      · have HP := Lib.hid hP
        clear hP H0
        go_wp2_with fail
        go_ret
        obtain ⟨Sk, h1, h2, h3, h4⟩ := HP.out
        have e1 : R.1 = 0 := by rw [HG.out.2.1]
        have e2 : Sk = R.2 := h3
        rw [e1, ← e2]
        exact ⟨rfl, h1, (Keep.of_below HB.out HG.out.2.2.2.1.yl).trans h4⟩

set_option maxRecDepth 100000 in
set_option maxHeartbeats 1600000 in
theorem node_make {w : World} {ps : Nat} {S : St} {Y : Nat → Prop} (h : StOn w ps S Y) (hm : MkOk S 6) (n : Nd) (hn : NdLt n) :
    Calls Tryz.prog 147 #[PV ps, ndV n] w fun e w' => e = .returned (.tuple #[.int .u64 ((makeNode S n).1.1 : Nat), .int .i64 ((makeNode S n).1.2 : Nat)]) ∧ StOn w' ps (makeNode S n).2 Y ∧ Keep Y w w' := by
  have hmk := fun W (hW : Below w.heap.size w W) => st_make (h.wide hW) 6 (by omega) hm.1
  have hmlt := make_lt h.tabwf 6
  have hmi := hm.2
  obtain ⟨R, hR⟩ : ∃ R, makeNode S n = R := ⟨_, rfl⟩
  rw [hR]
  unfold makeNode at hR
  obtain ⟨⟨⟨hh, er⟩, S1⟩, hS⟩ : ∃ r, S.make 6 = r := ⟨_, rfl⟩
  rw [hS] at hmk hmlt hmi hR
  simp only at hmk hmlt hmi
  have hpu := fun W Z (hW : StOn W ps S1 Z) => node_put hW hmi hh hmlt n hn
  obtain ⟨k0, k1, k2, k3, k4, k5⟩ := n
  unfold ndV at hpu ⊢
  simp only at hpu ⊢
  have hb1 : Below w.heap.size w (w.alloc (.cells #[.int .u64 k0, .int .u64 k1, .int .u64 k2, .int .u64 k3, .int .u64 k4, .int .u64 k5] 183)) := (Below.refl _ w).alloc (Nat.le_refl _) _
  have kx := heap_alloc_new w (.cells #[.int .u64 k0, .int .u64 k1, .int .u64 k2, .int .u64 k3, .int .u64 k4, .int .u64 k5] 183)
  have HG := Lib.hid (And.intro (hmk _ hb1) (And.intro hR (And.intro hb1 (And.intro h (And.intro hpu kx)))))
  clear hmk hR hb1 hm hmi hS hn hpu kx
  go_enter Tryz.func147, Tryz.ntmps147
  go_wp2_with fail
  refine HG.out.1.mono ?_
  rintro e w1 ⟨rfl, h1, kp1⟩
  have hx : w1.heap[w.heap.size]? = some (.cells #[.int .u64 k0, .int .u64 k1, .int .u64 k2, .int .u64 k3, .int .u64 k4, .int .u64 k5] 183 (0, 0)) := (kp1.block _ (Or.inr ⟨Nat.le_refl _, by simp⟩)).trans HG.out.2.2.2.2.2
  have a0 : w1.cell? ⟨w.heap.size, 0, none⟩ = some (.int .u64 k0) := by rw [cell_of_block hx]; rfl
  have a1 : w1.cell? ⟨w.heap.size, 1, none⟩ = some (.int .u64 k1) := by rw [cell_of_block hx]; rfl
  have a2 : w1.cell? ⟨w.heap.size, 2, none⟩ = some (.int .u64 k2) := by rw [cell_of_block hx]; rfl
  have a3 : w1.cell? ⟨w.heap.size, 3, none⟩ = some (.int .u64 k3) := by rw [cell_of_block hx]; rfl
  have a4 : w1.cell? ⟨w.heap.size, 4, none⟩ = some (.int .u64 k4) := by rw [cell_of_block hx]; rfl
  have a5 : w1.cell? ⟨w.heap.size, 5, none⟩ = some (.int .u64 k5) := by rw [cell_of_block hx]; rfl
  have h1' := h1.mono (Z := Y) fun k hk => Or.inl hk
  have kp1' := (Keep.of_below HG.out.2.2.1 h.yl).trans (kp1.mono (Z := Y) fun k hk => Or.inl hk)
  have H1 := Lib.hid (And.intro h1' (And.intro kp1' (HG.out.2.2.2.2.1 w1 Y h1')))
  clear h1 kp1 hx h1' kp1' h
  cases er with
  | succ er =>
    have hR1 : R = ((0, er + 1), S1) := by rw [← HG.out.2.1]; rfl
    have hq1 : (((er + 1 : Nat) : Int) != 0) = true := by simp; omega
    obtain ⟨g1, hg1⟩ : ∃ g1, er + 1 = g1 := ⟨_, rfl⟩
    rw [hg1] at hR1 hq1
    simp only [hg1]
    have HR1 := Lib.hid hR1
    clear hR1 hg1
    go_wp2_with fail
    go_ret2
    obtain rfl := HR1.out
    exact ⟨rfl, H1.out.1, H1.out.2.1⟩
  | zero =>
    have hR1 : R = ((hh, (putNode S1 hh ⟨k0, k1, k2, k3, k4, k5⟩).1), (putNode S1 hh ⟨k0, k1, k2, k3, k4, k5⟩).2) := by rw [← HG.out.2.1]; rfl
    have HR1 := Lib.hid hR1
    clear hR1
    go_wp2_with fail
    refine H1.out.2.2.mono ?_
    rintro e w2 ⟨rfl, h2, kp2⟩
    have H2 := Lib.hid (And.intro h2 (H1.out.2.1.trans kp2))
    clear h2 kp2
    go_wp2_with fail
    go_ret2
    obtain rfl := HR1.out
    exact ⟨rfl, H2.out⟩
end Go.Proofs.YtepdkbmnkjfcpaaGreatDoor

namespace Go.Proofs.YtepdkbmnkjfcpaaGreatDoor.Lf

/-! ### walks -/
def num (x : Nat) : Option Nat := match x / 4611686018427387904 with | 0 => some x | _ + 1 => none
def heightM (S : St) (h : Nat) : Option Nat := num (markT S h)
def sizeM (S : St) (h : Nat) : Option Nat := num (sizeT S h)
def textM (S : St) (h : Nat) : Option (List UInt8) := if (getBlob S h).2 = 8 then none else some (getBlob S h).1
def downM (S : St) (k : List UInt8) : Nat → Nat → Nat → Option (Nat × Nat)
  | 0, _, below => some (0, below)
  | f + 1, root, below =>
    if root = 0 then some (0, below)
    else if (getNode S root).2 ≠ 0 then some (0, below)
    else match textM S (getNode S root).1.key with
      | none => none
      | some t =>
        if cmpB k t < 0 then downM S k f (getNode S root).1.left below
        else match sizeM S (getNode S root).1.left with
          | none => none
          | some z =>
            if 0 < cmpB k t then (match num (below + (z + 1)) with | none => none | some b => downM S k f (getNode S root).1.right b)
            else (match num (below + z) with | none => none | some b => some (root, b))
theorem downM_zero (S : St) (k : List UInt8) (root below : Nat) : downM S k 0 root below = some (0, below) := rfl
theorem downM_succ (S : St) (k : List UInt8) (f root below : Nat) : downM S k (f + 1) root below =
    if root = 0 then some (0, below)
    else if (getNode S root).2 ≠ 0 then some (0, below)
    else match textM S (getNode S root).1.key with
      | none => none
      | some t =>
        if cmpB k t < 0 then downM S k f (getNode S root).1.left below
        else match sizeM S (getNode S root).1.left with
          | none => none
          | some z =>
            if 0 < cmpB k t then (match num (below + (z + 1)) with | none => none | some b => downM S k f (getNode S root).1.right b)
            else (match num (below + z) with | none => none | some b => some (root, b)) := rfl
def rankM (S : St) (root : Nat) (k : List UInt8) : Option Nat := (downM S k (limit S) root 0).map (·.2)
def atM (S : St) : Nat → Nat → Nat → Option (Nat × Nat)
  | 0, _, _ => some (0, 2)
  | f + 1, root, k =>
    if (getNode S root).2 ≠ 0 then some (0, 2)
    else match sizeM S (getNode S root).1.left with
      | none => none
      | some z =>
        if k < z then atM S f (getNode S root).1.left k
        else if z < k then atM S f (getNode S root).1.right (k - (z + 1))
        else some (root, 0)
theorem atM_zero (S : St) (root k : Nat) : atM S 0 root k = some (0, 2) := rfl
theorem atM_succ (S : St) (f root k : Nat) : atM S (f + 1) root k =
    if (getNode S root).2 ≠ 0 then some (0, 2)
    else match sizeM S (getNode S root).1.left with
      | none => none
      | some z =>
        if k < z then atM S f (getNode S root).1.left k
        else if z < k then atM S f (getNode S root).1.right (k - (z + 1))
        else some (root, 0) := rfl
def walkAtM (S : St) (root k : Nat) : Option (Nat × Nat) :=
  match sizeM S root with
  | none => none
  | some z => if z ≤ k then some (0, 2) else atM S (limit S) root k

/-! ### trees balanced by their heights -/
def withM (S : St) (n : Nd) (h l r : Nat) : Option St :=
  match heightM S l, heightM S r, sizeM S l, sizeM S r with
  | some a, some b, some x, some y => some (putNode S h { n with left := l, right := r, mark := max a b + 1, size := x + y + 1 }).2
  | _, _, _, _ => none
def balanceM (S : St) (h : Nat) : Option (Nat × St) :=
  match heightM S (getNode S h).1.left, heightM S (getNode S h).1.right with
  | some a, some b => if a ≤ b + 1 ∧ b ≤ a + 1 then some (h, S) else none
  | _, _ => none
def joinM (n : Nd) (m : Nat) : Nat → St → Nat → Nat → Option (Nat × St)
  | 0, S, l, r => (withM S n m l r).map fun S' => (m, S')
  | f + 1, S, l, r =>
    match heightM S l, heightM S r with
    | some a, some b =>
      if b + 1 < a then
        match joinM n m f S (getNode S l).1.right r with
        | none => none
        | some (x, S1) =>
          match withM S1 (getNode S l).1 l (getNode S l).1.left x with
          | none => none
          | some S2 => balanceM S2 l
      else if a + 1 < b then
        match joinM n m f S l (getNode S r).1.left with
        | none => none
        | some (x, S1) =>
          match withM S1 (getNode S r).1 r x (getNode S r).1.right with
          | none => none
          | some S2 => balanceM S2 r
      else (withM S n m l r).map fun S' => (m, S')
    | _, _ => none
theorem joinM_zero (n : Nd) (m : Nat) (S : St) (l r : Nat) : joinM n m 0 S l r = (withM S n m l r).map fun S' => (m, S') := rfl
theorem joinM_succ (n : Nd) (m f : Nat) (S : St) (l r : Nat) : joinM n m (f + 1) S l r =
    match heightM S l, heightM S r with
    | some a, some b =>
      if b + 1 < a then
        match joinM n m f S (getNode S l).1.right r with
        | none => none
        | some (x, S1) =>
          match withM S1 (getNode S l).1 l (getNode S l).1.left x with
          | none => none
          | some S2 => balanceM S2 l
      else if a + 1 < b then
        match joinM n m f S l (getNode S r).1.left with
        | none => none
        | some (x, S1) =>
          match withM S1 (getNode S r).1 r x (getNode S r).1.right with
          | none => none
          | some S2 => balanceM S2 r
      else (withM S n m l r).map fun S' => (m, S')
    | _, _ => none := rfl
def isT (S : St) (h : Nat) : Bool := h = 0 || (getNode S h).2 = 0
def avlJoinM (S : St) (l m r : Nat) : Option ((Nat × Nat) × St) :=
  if m = 0 ∨ isT S l = false ∨ isT S m = false ∨ isT S r = false then some ((0, 8), S)
  else (joinM (getNode S m).1 m 100 S l r).map fun x => ((x.1, 0), x.2)

/-! ### parts -/
abbrev Jn := St → Nat → Nat → Nat → Option ((Nat × Nat) × St)
def cjoinM (jn : Jn) (S : St) (l m r : Nat) : Option (Nat × St) :=
  (jn S l m r).map fun x => (if x.1.2 = 0 then x.1.1 else m, x.2)
def splitM (jn : Jn) (key : List UInt8) : Nat → St → Nat → Option ((Nat × Nat × Nat) × St)
  | 0, S, _ => some ((0, 0, 0), S)
  | f + 1, S, root =>
    if root = 0 then some ((0, 0, 0), S)
    else match textM S (getNode S root).1.key with
      | none => none
      | some k =>
        if cmpB key k < 0 then
          match splitM jn key f S (getNode S root).1.left with
          | none => none
          | some ((l, m, r), S1) => (cjoinM jn S1 r root (getNode S root).1.right).map fun x => ((l, m, x.1), x.2)
        else if 0 < cmpB key k then
          match splitM jn key f S (getNode S root).1.right with
          | none => none
          | some ((l, m, r), S1) => (cjoinM jn S1 (getNode S root).1.left root l).map fun x => ((x.1, m, r), x.2)
        else some (((getNode S root).1.left, root, (getNode S root).1.right), S)
theorem splitM_zero (jn : Jn) (key : List UInt8) (S : St) (root : Nat) : splitM jn key 0 S root = some ((0, 0, 0), S) := rfl
theorem splitM_succ (jn : Jn) (key : List UInt8) (f : Nat) (S : St) (root : Nat) : splitM jn key (f + 1) S root =
    if root = 0 then some ((0, 0, 0), S)
    else match textM S (getNode S root).1.key with
      | none => none
      | some k =>
        if cmpB key k < 0 then
          match splitM jn key f S (getNode S root).1.left with
          | none => none
          | some ((l, m, r), S1) => (cjoinM jn S1 r root (getNode S root).1.right).map fun x => ((l, m, x.1), x.2)
        else if 0 < cmpB key k then
          match splitM jn key f S (getNode S root).1.right with
          | none => none
          | some ((l, m, r), S1) => (cjoinM jn S1 (getNode S root).1.left root l).map fun x => ((x.1, m, r), x.2)
        else some (((getNode S root).1.left, root, (getNode S root).1.right), S) := rfl
/-- Insert: what is the root now, the elder node, the error -/
def insertM (jn : Jn) (S : St) (root m : Nat) : Option ((Nat × Nat × Nat) × St) :=
  if isT S root = false ∨ isT S m = false then some ((0, 0, 8), S)
  else match textM S (getNode S m).1.key with
    | none => none
    | some key =>
      if m = 0 ∨ (getBlob S (getNode S m).1.key).2 ≠ 0 then some ((0, 0, 8), S)
      else match splitM jn key 200 S root with
        | none => none
        | some ((l, old, r), S1) => (cjoinM jn S1 l m r).map fun x => ((x.1, old, 0), x.2)
end Go.Proofs.YtepdkbmnkjfcpaaGreatDoor.Lf
