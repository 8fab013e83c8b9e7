/- What walks, joined trees and their parts compute, where all is well (none: not looked at here): plain Lean, no program in sight. Walks: limit, key, Size; Height: the walks. Walks: down, Rank: the walks. -/
import Derived.Test.YtoaabbnieakidaaGreatDoorRGaj
import Derived.Test.YtoaabbnieakidaaGreatDoorRGap
namespace Go.Proofs.YtoaabbnieakidaaGreatDoorR.Lf

/-! ### walks -/
def num (x : Nat) : Option Nat := match x / 4611686018427387904 with | 0 => some x | _ + 1 => none
def heightM (S : St) (h : Nat) : Option Nat := num (markT S h)
def sizeM (S : St) (h : Nat) : Option Nat := num (sizeT S h)
def textM (S : St) (h : Nat) : Option (List UInt8) := if (getBlob S h).2 = 8 then none else some (getBlob S h).1
def downM (S : St) (k : List UInt8) : Nat → Nat → Nat → Option (Nat × Nat)
  | 0, _, below => some (0, below)
  | f + 1, root, below =>
    if root = 0 then some (0, below)
    else if (getNode S root).2 ≠ 0 then some (0, below)
    else match textM S (getNode S root).1.key with
      | none => none
      | some t =>
        if cmpB k t < 0 then downM S k f (getNode S root).1.left below
        else match sizeM S (getNode S root).1.left with
          | none => none
          | some z =>
            if 0 < cmpB k t then (match num (below + (z + 1)) with | none => none | some b => downM S k f (getNode S root).1.right b)
            else (match num (below + z) with | none => none | some b => some (root, b))
theorem downM_zero (S : St) (k : List UInt8) (root below : Nat) : downM S k 0 root below = some (0, below) := rfl
theorem downM_succ (S : St) (k : List UInt8) (f root below : Nat) : downM S k (f + 1) root below =
    if root = 0 then some (0, below)
    else if (getNode S root).2 ≠ 0 then some (0, below)
    else match textM S (getNode S root).1.key with
      | none => none
      | some t =>
        if cmpB k t < 0 then downM S k f (getNode S root).1.left below
        else match sizeM S (getNode S root).1.left with
          | none => none
          | some z =>
            if 0 < cmpB k t then (match num (below + (z + 1)) with | none => none | some b => downM S k f (getNode S root).1.right b)
            else (match num (below + z) with | none => none | some b => some (root, b)) := rfl
def rankM (S : St) (root : Nat) (k : List UInt8) : Option Nat := (downM S k (limit S) root 0).map (·.2)
def atM (S : St) : Nat → Nat → Nat → Option (Nat × Nat)
  | 0, _, _ => some (0, 2)
  | f + 1, root, k =>
    if (getNode S root).2 ≠ 0 then some (0, 2)
    else match sizeM S (getNode S root).1.left with
      | none => none
      | some z =>
        if k < z then atM S f (getNode S root).1.left k
        else if z < k then atM S f (getNode S root).1.right (k - (z + 1))
        else some (root, 0)
theorem atM_zero (S : St) (root k : Nat) : atM S 0 root k = some (0, 2) := rfl
theorem atM_succ (S : St) (f root k : Nat) : atM S (f + 1) root k =
    if (getNode S root).2 ≠ 0 then some (0, 2)
    else match sizeM S (getNode S root).1.left with
      | none => none
      | some z =>
        if k < z then atM S f (getNode S root).1.left k
        else if z < k then atM S f (getNode S root).1.right (k - (z + 1))
        else some (root, 0) := rfl
def walkAtM (S : St) (root k : Nat) : Option (Nat × Nat) :=
  match sizeM S root with
  | none => none
  | some z => if z ≤ k then some (0, 2) else atM S (limit S) root k

/-! ### trees balanced by their heights -/
def withM (S : St) (n : Nd) (h l r : Nat) : Option St :=
  match heightM S l, heightM S r, sizeM S l, sizeM S r with
  | some a, some b, some x, some y => some (putNode S h { n with left := l, right := r, mark := max a b + 1, size := x + y + 1 }).2
  | _, _, _, _ => none
def balanceM (S : St) (h : Nat) : Option (Nat × St) :=
  match heightM S (getNode S h).1.left, heightM S (getNode S h).1.right with
  | some a, some b => if a ≤ b + 1 ∧ b ≤ a + 1 then some (h, S) else none
  | _, _ => none
def joinM (n : Nd) (m : Nat) : Nat → St → Nat → Nat → Option (Nat × St)
  | 0, S, l, r => (withM S n m l r).map fun S' => (m, S')
  | f + 1, S, l, r =>
    match heightM S l, heightM S r with
    | some a, some b =>
      if b + 1 < a then
        match joinM n m f S (getNode S l).1.right r with
        | none => none
        | some (x, S1) =>
          match withM S1 (getNode S l).1 l (getNode S l).1.left x with
          | none => none
          | some S2 => balanceM S2 l
      else if a + 1 < b then
        match joinM n m f S l (getNode S r).1.left with
        | none => none
        | some (x, S1) =>
          match withM S1 (getNode S r).1 r x (getNode S r).1.right with
          | none => none
          | some S2 => balanceM S2 r
      else (withM S n m l r).map fun S' => (m, S')
    | _, _ => none
theorem joinM_zero (n : Nd) (m : Nat) (S : St) (l r : Nat) : joinM n m 0 S l r = (withM S n m l r).map fun S' => (m, S') := rfl
theorem joinM_succ (n : Nd) (m f : Nat) (S : St) (l r : Nat) : joinM n m (f + 1) S l r =
    match heightM S l, heightM S r with
    | some a, some b =>
      if b + 1 < a then
        match joinM n m f S (getNode S l).1.right r with
        | none => none
        | some (x, S1) =>
          match withM S1 (getNode S l).1 l (getNode S l).1.left x with
          | none => none
          | some S2 => balanceM S2 l
      else if a + 1 < b then
        match joinM n m f S l (getNode S r).1.left with
        | none => none
        | some (x, S1) =>
          match withM S1 (getNode S r).1 r x (getNode S r).1.right with
          | none => none
          | some S2 => balanceM S2 r
      else (withM S n m l r).map fun S' => (m, S')
    | _, _ => none := rfl
def isT (S : St) (h : Nat) : Bool := h = 0 || (getNode S h).2 = 0
def avlJoinM (S : St) (l m r : Nat) : Option ((Nat × Nat) × St) :=
  if m = 0 ∨ isT S l = false ∨ isT S m = false ∨ isT S r = false then some ((0, 8), S)
  else (joinM (getNode S m).1 m 100 S l r).map fun x => ((x.1, 0), x.2)

/-! ### parts -/
abbrev Jn := St → Nat → Nat → Nat → Option ((Nat × Nat) × St)
def cjoinM (jn : Jn) (S : St) (l m r : Nat) : Option (Nat × St) :=
  (jn S l m r).map fun x => (if x.1.2 = 0 then x.1.1 else m, x.2)
def splitM (jn : Jn) (key : List UInt8) : Nat → St → Nat → Option ((Nat × Nat × Nat) × St)
  | 0, S, _ => some ((0, 0, 0), S)
  | f + 1, S, root =>
    if root = 0 then some ((0, 0, 0), S)
    else match textM S (getNode S root).1.key with
      | none => none
      | some k =>
        if cmpB key k < 0 then
          match splitM jn key f S (getNode S root).1.left with
          | none => none
          | some ((l, m, r), S1) => (cjoinM jn S1 r root (getNode S root).1.right).map fun x => ((l, m, x.1), x.2)
        else if 0 < cmpB key k then
          match splitM jn key f S (getNode S root).1.right with
          | none => none
          | some ((l, m, r), S1) => (cjoinM jn S1 (getNode S root).1.left root l).map fun x => ((x.1, m, r), x.2)
        else some (((getNode S root).1.left, root, (getNode S root).1.right), S)
theorem splitM_zero (jn : Jn) (key : List UInt8) (S : St) (root : Nat) : splitM jn key 0 S root = some ((0, 0, 0), S) := rfl
theorem splitM_succ (jn : Jn) (key : List UInt8) (f : Nat) (S : St) (root : Nat) : splitM jn key (f + 1) S root =
    if root = 0 then some ((0, 0, 0), S)
    else match textM S (getNode S root).1.key with
      | none => none
      | some k =>
        if cmpB key k < 0 then
          match splitM jn key f S (getNode S root).1.left with
          | none => none
          | some ((l, m, r), S1) => (cjoinM jn S1 r root (getNode S root).1.right).map fun x => ((l, m, x.1), x.2)
        else if 0 < cmpB key k then
          match splitM jn key f S (getNode S root).1.right with
          | none => none
          | some ((l, m, r), S1) => (cjoinM jn S1 (getNode S root).1.left root l).map fun x => ((x.1, m, r), x.2)
        else some (((getNode S root).1.left, root, (getNode S root).1.right), S) := rfl
/-- Insert: what is the root now, the elder node, the error -/
def insertM (jn : Jn) (S : St) (root m : Nat) : Option ((Nat × Nat × Nat) × St) :=
  if isT S root = false ∨ isT S m = false then some ((0, 0, 8), S)
  else match textM S (getNode S m).1.key with
    | none => none
    | some key =>
      if m = 0 ∨ (getBlob S (getNode S m).1.key).2 ≠ 0 then some ((0, 0, 8), S)
      else match splitM jn key 200 S root with
        | none => none
        | some ((l, old, r), S1) => (cjoinM jn S1 l m r).map fun x => ((x.1, old, 0), x.2)
end Go.Proofs.YtoaabbnieakidaaGreatDoorR.Lf

namespace Go.Proofs.YtoaabbnieakidaaGreatDoorR
open Go.RowKit Go.BigFrame Go.Maps Go.WideMaps Lf

theorem getNode_lt {w : World} {ps : Nat} {S : St} {Y : Nat → Prop} (h : StOn w ps S Y) (hh : Nat) : NdLt (getNode S hh).1 := by
  have g := fun k => get_lt h hh k
  unfold getNode
  split
  · exact ⟨g 0, g 1, g 2, g 3, g 4, g 5⟩
  · have z : 0 < 18446744073709551616 := by decide
    exact ⟨z, z, z, z, z, z⟩
theorem num_some {x y : Nat} (h : num x = some y) : y = x ∧ x < 4611686018427387904 := by
  unfold num at h
  split at h
  · rename_i hx; injection h with h; exact ⟨h.symm, by omega⟩
  · cases h
theorem words_le {w : World} {ps : Nat} {S : St} {Y : Nat → Prop} (h : StOn w ps S Y) : S.words ≤ 262144 := by
  obtain ⟨_, _, _, _, _, h⟩ := h
  have := h.heap.wf.room
  have := h.heap.wf.quota
  unfold St.words
  omega

set_option maxRecDepth 100000 in
set_option maxHeartbeats 400000 in
theorem walk_limit {w : World} {ps : Nat} {S : St} {Y : Nat → Prop} (h : StOn w ps S Y) :
    Calls Tryz.prog 254 #[PV ps] w fun e w' => e = .returned (.int .i64 (limit S : Nat)) ∧ Below w.heap.size w w' := by
  have hw := st_words h
  have hle := words_le h
  unfold limit
  generalize S.words = m at *
  have HG := Lib.hid hw
  clear hw h
  go_enter Tryz.func254, Tryz.ntmps254
  go_wp2_with fail
  refine HG.out.mono ?_
  rintro e w1 ⟨rfl, hb⟩
  have HB := Lib.hid hb
  clear hb
  go_wp2_with fail
  go_ret
  exact ⟨by simp, HB.out⟩

set_option maxRecDepth 100000 in
set_option maxHeartbeats 400000 in
theorem walk_key {w : World} {ps : Nat} {S : St} {Y : Nat → Prop} (h : StOn w ps S Y) (hi : Inv S) (n : Nd) (hn : n.key < 18446744073709551616) {t : List UInt8} (ht : textM S n.key = some t) :
    Calls Tryz.prog 374 #[PV ps, ndV n] w fun e w' => e = .returned (SV t) ∧ Below w.heap.size w w' := by
  unfold textM at ht
  split at ht
  · cases ht
  · rename_i h8
    injection ht with ht
    obtain ⟨k0, k1, k2, k3, k4, k5⟩ := n
    simp only at hn ht h8
    have hb1 : Below w.heap.size w (w.alloc (.cells #[.int .u64 k0, .int .u64 k1, .int .u64 k2, .int .u64 k3, .int .u64 k4, .int .u64 k5] 274)) := (Below.refl _ w).alloc (Nat.le_refl _) _
    have hg := blob_get (h.below hb1) hi k0 hn h8
    rw [ht] at hg
    generalize (getBlob S k0).2 = er at *
    unfold ndV
    simp only
    have HG := Lib.hid (And.intro hg hb1)
    clear hg hb1 h hi ht h8
    go_enter Tryz.func374, Tryz.ntmps374
    go_wp2_with fail
    refine HG.out.1.mono ?_
    rintro e w1 ⟨rfl, hb⟩
    have HB := Lib.hid (HG.out.2.trans (hb.mono HG.out.2.size))
    clear hb
    go_wp2_with fail
    go_ret
    exact ⟨rfl, HB.out⟩

set_option maxRecDepth 100000 in
set_option maxHeartbeats 800000 in
theorem walk_size {w : World} {ps : Nat} {S : St} {Y : Nat → Prop} (h : StOn w ps S Y) (hi : Inv S) (hh : Nat) (hl : hh < 18446744073709551616) {z : Nat} (hz : sizeM S hh = some z) :
    Calls Tryz.prog 325 #[PV ps, .int .u64 hh] w fun e w' => e = .returned (.int .i64 z) ∧ Below w.heap.size w w' := by
  have hg := node_get h hi hh hl
  unfold sizeM sizeT at hz
  obtain ⟨rfl, hz2⟩ := num_some hz
  clear hz
  have hez : (getNode S hh).2 ≠ 0 → (getNode S hh).1 = Nd.zero := fun he => by
    unfold getNode at he ⊢
    split
    · rename_i e; rw [e] at he; exact absurd rfl he
    · rfl
  obtain ⟨⟨⟨k0, k1, k2, k3, k4, k5⟩, er⟩, hE⟩ : ∃ r, getNode S hh = r := ⟨_, rfl⟩
  rw [hE] at hg hz2 hez ⊢
  simp only at hg hz2 hez ⊢
  unfold ndV at hg
  simp only at hg
  cases er with
  | succ er =>
    have h0 := hez (by omega)
    injection h0 with h0 h1 h2 h3 h4 h5
    subst h0 h1 h2 h3 h4 h5
    have hq1 : (((er + 1 : Nat) : Int) != 0) = true := by simp; omega
    obtain ⟨g1, hg1⟩ : ∃ g1, er + 1 = g1 := ⟨_, rfl⟩
    rw [hg1] at hg hq1
    have HG := Lib.hid hg
    clear hg h hi hE hez hg1
    go_enter Tryz.func325, Tryz.ntmps325
    go_wp2_with fail
    refine HG.out.mono ?_
    rintro e w1 ⟨rfl, hb⟩
    have HB := Lib.hid (hb.alloc hb.size (.cells #[.int .u64 0, .int .u64 0, .int .u64 0, .int .u64 0, .int .u64 0, .int .u64 0] 274))
    clear hb
    go_wp2_with fail
    go_ret
    exact ⟨rfl, HB.out⟩
  | zero =>
    have HG := Lib.hid hg
    clear hg h hi hE hez
    go_enter Tryz.func325, Tryz.ntmps325
    go_wp2_with fail
    refine HG.out.mono ?_
    rintro e w1 ⟨rfl, hb⟩
    have HB := Lib.hid (hb.alloc hb.size (.cells #[.int .u64 k0, .int .u64 k1, .int .u64 k2, .int .u64 k3, .int .u64 k4, .int .u64 k5] 274))
    clear hb
    go_wp2_with fail
    go_ret
    exact ⟨rfl, HB.out⟩

set_option maxRecDepth 100000 in
set_option maxHeartbeats 800000 in
theorem avl_height {w : World} {ps : Nat} {S : St} {Y : Nat → Prop} (h : StOn w ps S Y) (hi : Inv S) (hh : Nat) (hl : hh < 18446744073709551616) {z : Nat} (hz : heightM S hh = some z) :
    Calls Tryz.prog 301 #[PV ps, .int .u64 hh] w fun e w' => e = .returned (.int .i64 z) ∧ Below w.heap.size w w' := by
  have hg := node_get h hi hh hl
  unfold heightM markT at hz
  obtain ⟨rfl, hz2⟩ := num_some hz
  clear hz
  have hez : (getNode S hh).2 ≠ 0 → (getNode S hh).1 = Nd.zero := fun he => by
    unfold getNode at he ⊢
    split
    · rename_i e; rw [e] at he; exact absurd rfl he
    · rfl
  obtain ⟨⟨⟨k0, k1, k2, k3, k4, k5⟩, er⟩, hE⟩ : ∃ r, getNode S hh = r := ⟨_, rfl⟩
  rw [hE] at hg hz2 hez ⊢
  simp only at hg hz2 hez ⊢
  unfold ndV at hg
  simp only at hg
  cases er with
  | succ er =>
    have h0 := hez (by omega)
    injection h0 with h0 h1 h2 h3 h4 h5
    subst h0 h1 h2 h3 h4 h5
    have hq1 : (((er + 1 : Nat) : Int) != 0) = true := by simp; omega
    obtain ⟨g1, hg1⟩ : ∃ g1, er + 1 = g1 := ⟨_, rfl⟩
    rw [hg1] at hg hq1
    have HG := Lib.hid hg
    clear hg h hi hE hez hg1
    go_enter Tryz.func301, Tryz.ntmps301
    go_wp2_with fail
    refine HG.out.mono ?_
    rintro e w1 ⟨rfl, hb⟩
    have HB := Lib.hid (hb.alloc hb.size (.cells #[.int .u64 0, .int .u64 0, .int .u64 0, .int .u64 0, .int .u64 0, .int .u64 0] 274))
    clear hb
    go_wp2_with fail
    go_ret
    exact ⟨rfl, HB.out⟩
  | zero =>
    have HG := Lib.hid hg
    clear hg h hi hE hez
    go_enter Tryz.func301, Tryz.ntmps301
    go_wp2_with fail
    refine HG.out.mono ?_
    rintro e w1 ⟨rfl, hb⟩
    have HB := Lib.hid (hb.alloc hb.size (.cells #[.int .u64 k0, .int .u64 k1, .int .u64 k2, .int .u64 k3, .int .u64 k4, .int .u64 k5] 274))
    clear hb
    go_wp2_with fail
    go_ret
    exact ⟨rfl, HB.out⟩
end Go.Proofs.YtoaabbnieakidaaGreatDoorR

namespace Go.Proofs.YtoaabbnieakidaaGreatDoorR
open Go.RowKit Go.BigFrame Go.Maps Go.WideMaps Lf

theorem getNode_err {S : St} {hh : Nat} (h : (getNode S hh).2 ≠ 0) : (getNode S hh).1 = Nd.zero := by
  unfold getNode at h ⊢
  split
  · rename_i e; rw [e] at h; exact absurd rfl h
  · rfl

set_option maxRecDepth 100000 in
set_option maxHeartbeats 3200000 in
theorem walk_down {w : World} {ps : Nat} {S : St} {Y : Nat → Prop} (h : StOn w ps S Y) (hi : Inv S) (root : Nat) (hl : root < 18446744073709551616) (k : List UInt8) {R : Nat × Nat} (hR : downM S k (limit S) root 0 = some R) :
    Calls Tryz.prog 370 #[PV ps, .int .u64 root, SV k] w fun e w' => e = .returned (.tuple #[.int .u64 R.1, .int .i64 R.2]) ∧ Below w.heap.size w w' := by
  have hlm := walk_limit h
  have hle := words_le h
  have hL : limit S ≤ 40000 := by unfold limit; omega
  obtain ⟨L, hLe⟩ : ∃ L, limit S = L := ⟨_, rfl⟩
  rw [hLe] at hlm hL hR
  have hnlt := fun hh => getNode_lt h hh
  have HG := Lib.hid (And.intro hlm (And.intro h (And.intro hi (And.intro hR hnlt))))
  clear hlm h hi hR hle hLe hnlt
  go_enter Tryz.func370, Tryz.ntmps370
  go_wp2_with fail
  refine HG.out.1.mono ?_
  rintro e w1 ⟨rfl, hb1⟩
  have HB1 := Lib.hid hb1
  clear hb1
  go_wp2_with fail
  go_loopw [1, 7, 9, 10, 11, 12] (fun r b i _ _ _ wr => ∃ f root bb ii : Nat, r = .int .u64 root ∧ b = .int .i64 bb ∧ i = .int .i64 ii ∧ f + ii = L ∧ root < 18446744073709551616 ∧ bb < 4611686018427387904 ∧ Hid (downM S k f root bb = some R ∧ Below w.heap.size w wr)) (fun _ _ i _ _ _ _ => L - (intOf i).toNat)
  case atStart => exact ⟨L, root, 0, 0, rfl, rfl, rfl, by omega, hl, by omega, HG.out.2.2.2.1, HB1.out⟩
  case round =>
    obtain ⟨f, root, bb, ii, rfl, rfl, rfl, hf, hrl, hbl, hin⟩ := hrel
    have hi9 : ii ≤ 40000 := by omega
    cases f with
    | zero =>
      have hii : ii = L := by omega
      have hRe : R = (0, bb) := by have h9 := hin.out.1; rw [downM_zero] at h9; exact (Option.some.inj h9).symm
      have HE := Lib.hid (And.intro hRe hin.out.2)
      clear hRe hin
      by_cases hr0 : root = 0
      · subst hr0
        go_wp2_with fail
        go_ret2
        obtain rfl := HE.out.1
        exact ⟨rfl, HE.out.2⟩
      · have hq : ((root : Int) != 0) = true := by simp; omega
        have hge : (L : Int) ≤ ii := by omega
        clear hr0
        go_wp2_with fail
        go_ret2
        obtain rfl := HE.out.1
        exact ⟨rfl, HE.out.2⟩
    | succ f =>
      by_cases hr0 : root = 0
      · have hRe : R = (0, bb) := by have h9 := hin.out.1; rw [downM_succ, if_pos hr0] at h9; exact (Option.some.inj h9).symm
        have HE := Lib.hid (And.intro hRe hin.out.2)
        clear hRe hin
        subst hr0
        go_wp2_with fail
        go_ret2
        obtain rfl := HE.out.1
        exact ⟨rfl, HE.out.2⟩
      · have hq : ((root : Int) != 0) = true := by simp; omega
        have hlt : (ii : Int) < L := by omega
        have hd := hin.out.1
        rw [downM_succ, if_neg hr0] at hd
        have hSr := HG.out.2.1.below hin.out.2
        have hg := node_get hSr HG.out.2.2.1 root hrl
        have hng := HG.out.2.2.2.2 root
        obtain ⟨⟨nd, er⟩, hE⟩ : ∃ r, getNode S root = r := ⟨_, rfl⟩
        rw [hE] at hg hng hd
        simp only at hg hng hd
        obtain ⟨k0, k1, k2, k3, k4, k5⟩ := nd
        obtain ⟨n0, n1, n2, n3, n4, n5⟩ := hng
        simp only at n0 n1 n2 n3 n4 n5
        have hnd : ndV ⟨k0, k1, k2, k3, k4, k5⟩ = .agg #[.int .u64 k0, .int .u64 k1, .int .u64 k2, .int .u64 k3, .int .u64 k4, .int .u64 k5] := rfl
        rw [hnd] at hg
        cases er with
        | succ er =>
          rw [if_pos (by omega)] at hd
          have hd := Option.some.inj hd
          have hq1 : (((er + 1 : Nat) : Int) != 0) = true := by simp; omega
          obtain ⟨g1, hg1⟩ : ∃ g1, er + 1 = g1 := ⟨_, rfl⟩
          rw [hg1] at hg hq1
          have HE := Lib.hid (And.intro hg (And.intro hd hin.out.2))
          clear hg hd hin hSr hE hr0 hg1 hnd
          go_wp2_with fail
          refine HE.out.1.mono ?_
          rintro e w2 ⟨rfl, hb2⟩
          have HB2 := Lib.hid ((HE.out.2.2.trans (hb2.mono HE.out.2.2.size)).alloc (Nat.le_trans HE.out.2.2.size hb2.size) (.cells #[.int .u64 k0, .int .u64 k1, .int .u64 k2, .int .u64 k3, .int .u64 k4, .int .u64 k5] 274))
          clear hb2
          go_wp2_with fail
          go_ret2
          obtain rfl := HE.out.2.1
          exact ⟨rfl, HB2.out⟩
        | zero =>
          rw [if_neg (by omega)] at hd
          cases ht : textM S k0 with
          | none => rw [ht] at hd; cases hd
          | some t =>
            rw [ht] at hd
            simp only at hd
            have HE := Lib.hid (And.intro hg (And.intro hin.out.2 ht))
            clear hg hin hSr hE hr0 ht
            go_wp2_with fail
            refine HE.out.1.mono ?_
            rintro e w2 ⟨rfl, hb2⟩
            have hB2 := (HE.out.2.1.trans (hb2.mono HE.out.2.1.size)).alloc (Nat.le_trans HE.out.2.1.size hb2.size) (.cells #[.int .u64 k0, .int .u64 k1, .int .u64 k2, .int .u64 k3, .int .u64 k4, .int .u64 k5] 274)
            have hk := walk_key (HG.out.2.1.below hB2) HG.out.2.2.1 ⟨k0, k1, k2, k3, k4, k5⟩ n0 HE.out.2.2
            rw [hnd] at hk
            have hx := heap_alloc_new w2 (.cells #[.int .u64 k0, .int .u64 k1, .int .u64 k2, .int .u64 k3, .int .u64 k4, .int .u64 k5] 274)
            have hlt2 : w2.heap.size < (w2.alloc (.cells #[.int .u64 k0, .int .u64 k1, .int .u64 k2, .int .u64 k3, .int .u64 k4, .int .u64 k5] 274)).heap.size := by simp
            have HK := Lib.hid (And.intro hk (And.intro hB2 (And.intro hx hlt2)))
            clear hb2 hB2 hk hx hlt2 hnd
            go_wp2_with fail
            refine HK.out.1.mono ?_
            rintro e w3 ⟨rfl, hb3⟩
            have HC := Lib.hid (text_compare k t w3)
            have hB3 := HK.out.2.1.trans (hb3.mono HK.out.2.1.size)
            have hx3 := (hb3.block _ HK.out.2.2.2).trans HK.out.2.2.1
            have a2 : w3.cell? ⟨w2.heap.size, 2, none⟩ = some (.int .u64 k2) := by rw [cell_of_block hx3]; rfl
            have a3 : w3.cell? ⟨w2.heap.size, 3, none⟩ = some (.int .u64 k3) := by rw [cell_of_block hx3]; rfl
            have HB3 := Lib.hid hB3
            clear hb3 hB3 hx3
            go_wp2_with fail
            refine HC.out.mono ?_
            rintro e w4 ⟨rfl, rfl⟩
            generalize cmpB k t = c at *
            by_cases hc : c < 0
            · rw [if_pos hc] at hd
              have HD := Lib.hid hd
              clear hd
              go_wp2_with fail
              go_roundw
              case rel => exact ⟨f, k2, bb, ii + 1, rfl, rfl, by simp, by omega, n2, hbl, HD.out, HB3.out⟩
              case measure => simp [intOf]; omega
            · rw [if_neg hc] at hd
              cases hz : sizeM S k2 with
              | none => rw [hz] at hd; cases hd
              | some z =>
                rw [hz] at hd
                simp only at hd
                have hzl : z < 4611686018427387904 := by have := num_some hz; omega
                have hsz := walk_size (HG.out.2.1.below HB3.out) HG.out.2.2.1 k2 n2 hz
                by_cases hc2 : 0 < c
                · rw [if_pos hc2] at hd
                  cases hn : num (bb + (z + 1)) with
                  | none => rw [hn] at hd; cases hd
                  | some b2 =>
                    rw [hn] at hd
                    simp only at hd
                    obtain ⟨rfl, hn2⟩ := num_some hn
                    have HD := Lib.hid (And.intro hd hsz)
                    clear hd hsz hn hz
                    go_wp2_with fail
                    refine HD.out.2.mono ?_
                    rintro e w5 ⟨rfl, hb5⟩
                    have a3' : w5.cell? ⟨w2.heap.size, 3, none⟩ = some (.int .u64 k3) := by

                      rw [← a3]
                      refine hb5.cell (p := ⟨w2.heap.size, 3, none⟩) ?_
                      unfold World.cell? at a3
                      split at a3
                      · rename_i heq; exact (Array.getElem?_eq_some_iff.1 heq).1
                      · cases a3
                    have HB5 := Lib.hid (HB3.out.trans (hb5.mono HB3.out.size))
                    clear hb5
                    go_wp2_with fail
                    go_roundw
                    case rel => exact ⟨f, k3, bb + (z + 1), ii + 1, rfl, by simp, by simp, by omega, n3, hn2, HD.out.1, HB5.out⟩
                    case measure => simp [intOf]; omega
                · rw [if_neg hc2] at hd
                  obtain rfl : c = 0 := by omega
                  cases hn : num (bb + z) with
                  | none => rw [hn] at hd; cases hd
                  | some b2 =>
                    rw [hn] at hd
                    simp only at hd
                    obtain ⟨rfl, hn2⟩ := num_some hn
                    have hd := Option.some.inj hd
                    have HD := Lib.hid (And.intro hd hsz)
                    clear hd hsz hn hz
                    go_wp2_with fail
                    refine HD.out.2.mono ?_
                    rintro e w5 ⟨rfl, hb5⟩
                    have HB5 := Lib.hid (HB3.out.trans (hb5.mono HB3.out.size))
                    clear hb5
                    go_wp2_with fail
                    go_ret2
                    obtain rfl := HD.out.1
                    exact ⟨by simp, HB5.out⟩

set_option maxRecDepth 100000 in
set_option maxHeartbeats 400000 in
theorem walk_rank {w : World} {ps : Nat} {S : St} {Y : Nat → Prop} (h : StOn w ps S Y) (hi : Inv S) (root : Nat) (hl : root < 18446744073709551616) (k : List UInt8) {z : Nat} (hR : rankM S root k = some z) :
    Calls Tryz.prog 368 #[PV ps, .int .u64 root, SV k] w fun e w' => e = .returned (.int .i64 z) ∧ Below w.heap.size w w' := by
  unfold rankM at hR
  cases hd : downM S k (limit S) root 0 with
  | none => rw [hd] at hR; cases hR
  | some R =>
    rw [hd] at hR
    injection hR with hR
    have HG := Lib.hid (And.intro (walk_down h hi root hl k hd) hR)
    clear h hi hd hR
    go_enter Tryz.func368, Tryz.ntmps368
    go_wp2_with fail
    refine HG.out.1.mono ?_
    rintro e w1 ⟨rfl, hb⟩
    have HB := Lib.hid hb
    clear hb
    go_wp2_with fail
    go_ret
    obtain rfl := HG.out.2
    exact ⟨rfl, HB.out⟩
end Go.Proofs.YtoaabbnieakidaaGreatDoorR
