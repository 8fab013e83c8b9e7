/- Walks: At: the walk. A region that draws its order, walked in a told order: an operation that only reads what all others leave as it was is taken ahead of those that could come with it; of the others there must be one alone that may come. -/
import Derived.Test.YtepdkbmnkjfcpaaGreatDoorGaw
import Derived.Test.YtepdkbmnkjfcpaaGreatDoorGax
namespace Go.Proofs.YtepdkbmnkjfcpaaGreatDoor
open Go.RowKit Go.BigFrame Go.Maps Go.WideMaps Lf

set_option maxRecDepth 100000 in
set_option maxHeartbeats 400000 in
theorem walk_at_neg {w : World} {ps : Nat} {S : St} {Y : Nat → Prop} (h : StOn w ps S Y) (hi : Inv S) (root : Nat) (k : Int) (hk : k < 0) :
    Calls Tryz.prog 327 #[PV ps, .int .u64 root, .int .i64 k] w fun e w' => e = .returned (.tuple #[.int .u64 0, .int .i64 2]) ∧ w = w' := by
  have hle := st_len h hi 0 (by omega)
  rw [len_zero] at hle
  have HG := Lib.hid hle
  clear hle h hi
  go_enter Tryz.func327, Tryz.ntmps327
  go_wp2_with fail
  refine HG.out.mono ?_
  rintro e w1 ⟨rfl, rfl⟩
  go_wp2_with fail
  go_ret2
  exact ⟨rfl, rfl⟩

set_option maxRecDepth 100000 in
set_option maxHeartbeats 3200000 in
theorem walk_at {w : World} {ps : Nat} {S : St} {Y : Nat → Prop} (h : StOn w ps S Y) (hi : Inv S) (root : Nat) (hl : root < 18446744073709551616) (k : Nat) (hk : k < 4611686018427387904) {R : Nat × Nat} (hR : walkAtM S root k = some R) :
    Calls Tryz.prog 327 #[PV ps, .int .u64 root, .int .i64 k] w fun e w' => e = .returned (.tuple #[.int .u64 R.1, .int .i64 R.2]) ∧ Below w.heap.size w w' := by
  have hlen := st_len h hi 0 (by omega)
  rw [len_zero] at hlen
  unfold walkAtM at hR
  cases hz : sizeM S root with
  | none => rw [hz] at hR; cases hR
  | some z =>
  rw [hz] at hR
  simp only at hR
  have hzl : z < 4611686018427387904 := by have := num_some hz; omega
  have hsz := walk_size h hi root hl hz
  by_cases hzk : z ≤ k
  · rw [if_pos hzk] at hR
    have hR := Option.some.inj hR
    have hzk' : (z : Int) ≤ k := by omega
    have HG := Lib.hid (And.intro hlen (And.intro hsz hR))
    clear hlen hsz hR h hi hz hzk
    go_enter Tryz.func327, Tryz.ntmps327
    go_wp2_with fail
    refine HG.out.1.mono ?_
    rintro e w1 ⟨rfl, rfl⟩
    go_wp2_with fail
    refine HG.out.2.1.mono ?_
    rintro e w1 ⟨rfl, hb⟩
    have HB := Lib.hid hb
    clear hb
    go_wp2_with fail
    go_ret2
    obtain rfl := HG.out.2.2
    exact ⟨rfl, HB.out⟩
  rw [if_neg hzk] at hR
  have hzk' : (k : Int) < z := by omega
  have hle := words_le h
  have hL : limit S ≤ 40000 := by unfold limit; omega
  obtain ⟨L, hLe⟩ : ∃ L, limit S = L := ⟨_, rfl⟩
  have hlm := fun W (hW : Below w.heap.size w W) => walk_limit (h.below hW)
  rw [hLe] at hlm hL hR
  have hnlt := fun hh => getNode_lt h hh
  have HG := Lib.hid (And.intro hlen (And.intro h (And.intro hi (And.intro hR (And.intro hnlt (And.intro hsz hlm))))))
  clear hlen h hi hR hle hLe hnlt hlm hsz hz hzk
  go_enter Tryz.func327, Tryz.ntmps327
  go_wp2_with fail
  refine HG.out.1.mono ?_
  rintro e w1 ⟨rfl, rfl⟩
  go_wp2_with fail
  refine HG.out.2.2.2.2.2.1.mono ?_
  rintro e w0 ⟨rfl, hb0⟩
  have HB0 := Lib.hid hb0
  clear hb0
  go_wp2_with fail
  refine (HG.out.2.2.2.2.2.2 _ HB0.out).mono ?_
  rintro e w1 ⟨rfl, hb1⟩
  have HB1 := Lib.hid (HB0.out.trans (hb1.mono HB0.out.size))
  clear hb1
  go_wp2_with fail
  go_loopw [1, 2, 11, 12, 13, 14] (fun r b i _ _ _ wr => ∃ f root kk ii : Nat, r = .int .u64 root ∧ b = .int .i64 kk ∧ i = .int .i64 ii ∧ f + ii = L ∧ root < 18446744073709551616 ∧ kk < 4611686018427387904 ∧ Hid (atM S f root kk = some R ∧ Below w.heap.size w wr)) (fun _ _ i _ _ _ _ => L - (intOf i).toNat)
  case atStart => exact ⟨L, root, k, 0, rfl, rfl, rfl, by omega, hl, hk, HG.out.2.2.2.1, HB1.out⟩
  case round =>
    obtain ⟨f, root, kk, ii, rfl, rfl, rfl, hf, hrl, hkl, hin⟩ := hrel
    have hi9 : ii ≤ 40000 := by omega
    cases f with
    | zero =>
      have hii : ii = L := by omega
      have hRe : R = (0, 2) := by have h9 := hin.out.1; rw [atM_zero] at h9; exact (Option.some.inj h9).symm
      have HE := Lib.hid (And.intro hRe hin.out.2)
      have hge : (L : Int) ≤ ii := by omega
      clear hRe hin
      go_wp2_with fail
      go_ret2
      obtain rfl := HE.out.1
      exact ⟨rfl, HE.out.2⟩
    | succ f =>
      have hlt : (ii : Int) < L := by omega
      have hd := hin.out.1
      rw [atM_succ] at hd
      have hSr := HG.out.2.1.below hin.out.2
      have hg := node_get hSr HG.out.2.2.1 root hrl
      have hng := HG.out.2.2.2.2.1 root
      obtain ⟨⟨nd, er⟩, hE⟩ : ∃ r, getNode S root = r := ⟨_, rfl⟩
      rw [hE] at hg hng hd
      simp only at hg hng hd
      obtain ⟨k0, k1, k2, k3, k4, k5⟩ := nd
      obtain ⟨n0, n1, n2, n3, n4, n5⟩ := hng
      simp only at n0 n1 n2 n3 n4 n5
      have hnd : ndV ⟨k0, k1, k2, k3, k4, k5⟩ = .agg #[.int .u64 k0, .int .u64 k1, .int .u64 k2, .int .u64 k3, .int .u64 k4, .int .u64 k5] := rfl
      rw [hnd] at hg
      cases er with
      | succ er =>
        rw [if_pos (by omega)] at hd
        have hd := Option.some.inj hd
        have hq1 : (((er + 1 : Nat) : Int) != 0) = true := by simp; omega
        obtain ⟨g1, hg1⟩ : ∃ g1, er + 1 = g1 := ⟨_, rfl⟩
        rw [hg1] at hg hq1
        have HE := Lib.hid (And.intro hg (And.intro hd hin.out.2))
        clear hg hd hin hSr hE hg1 hnd
        go_wp2_with fail
        refine HE.out.1.mono ?_
        rintro e w2 ⟨rfl, hb2⟩
        have HB2 := Lib.hid ((HE.out.2.2.trans (hb2.mono HE.out.2.2.size)).alloc (Nat.le_trans HE.out.2.2.size hb2.size) (.cells #[.int .u64 k0, .int .u64 k1, .int .u64 k2, .int .u64 k3, .int .u64 k4, .int .u64 k5] 183))
        clear hb2
        go_wp2_with fail
        go_ret2
        obtain rfl := HE.out.2.1
        exact ⟨rfl, HB2.out⟩
      | zero =>
        rw [if_neg (by omega)] at hd
        cases hz : sizeM S k2 with
        | none => rw [hz] at hd; cases hd
        | some z =>
          rw [hz] at hd
          simp only at hd
          have hzl : z < 4611686018427387904 := by have := num_some hz; omega
          have HE := Lib.hid (And.intro hg (And.intro hin.out.2 hz))
          clear hg hin hSr hE hz
          go_wp2_with fail
          refine HE.out.1.mono ?_
          rintro e w2 ⟨rfl, hb2⟩
          have hB2 := (HE.out.2.1.trans (hb2.mono HE.out.2.1.size)).alloc (Nat.le_trans HE.out.2.1.size hb2.size) (.cells #[.int .u64 k0, .int .u64 k1, .int .u64 k2, .int .u64 k3, .int .u64 k4, .int .u64 k5] 183)
          have hsz := walk_size (HG.out.2.1.below hB2) HG.out.2.2.1 k2 n2 HE.out.2.2
          have hx := heap_alloc_new w2 (.cells #[.int .u64 k0, .int .u64 k1, .int .u64 k2, .int .u64 k3, .int .u64 k4, .int .u64 k5] 183)
          have hlt2 : w2.heap.size < (w2.alloc (.cells #[.int .u64 k0, .int .u64 k1, .int .u64 k2, .int .u64 k3, .int .u64 k4, .int .u64 k5] 183)).heap.size := by simp
          have HK := Lib.hid (And.intro hsz (And.intro hB2 (And.intro hx hlt2)))
          clear hb2 hB2 hsz hx hlt2 hnd
          go_wp2_with fail
          refine HK.out.1.mono ?_
          rintro e w3 ⟨rfl, hb3⟩
          have hB3 := HK.out.2.1.trans (hb3.mono HK.out.2.1.size)
          have hx3 := (hb3.block _ HK.out.2.2.2).trans HK.out.2.2.1
          have a2 : w3.cell? ⟨w2.heap.size, 2, none⟩ = some (.int .u64 k2) := by rw [cell_of_block hx3]; rfl
          have a3 : w3.cell? ⟨w2.heap.size, 3, none⟩ = some (.int .u64 k3) := by rw [cell_of_block hx3]; rfl
          have HB3 := Lib.hid hB3
          clear hb3 hB3 hx3
          by_cases hc : kk < z
          · rw [if_pos hc] at hd
            have hc' : (kk : Int) < z := by omega
            have HD := Lib.hid hd
            clear hd
            go_wp2_with fail
            go_roundw
            case rel => exact ⟨f, k2, kk, ii + 1, rfl, rfl, by simp, by omega, n2, hkl, HD.out, HB3.out⟩
            case measure => simp [intOf]; omega
          · rw [if_neg hc] at hd
            by_cases hc2 : z < kk
            · rw [if_pos hc2] at hd
              have hc' : (z : Int) < kk := by omega
              have HD := Lib.hid hd
              clear hd
              go_wp2_with fail
              go_roundw
              case rel => exact ⟨f, k3, kk - (z + 1), ii + 1, rfl, by rw [show ((kk - (z + 1) : Nat) : Int) = (kk : Int) - ((z : Int) + 1) by omega], by simp, by omega, n3, by omega, HD.out, HB3.out⟩
              case measure => simp [intOf]; omega
            · rw [if_neg hc2] at hd
              obtain rfl : kk = z := by omega
              have hd := Option.some.inj hd
              have HD := Lib.hid hd
              clear hd
              go_wp2_with fail
              go_ret2
              obtain rfl := HD.out
              exact ⟨rfl, HB3.out⟩
end Go.Proofs.YtepdkbmnkjfcpaaGreatDoor

namespace Go.Proofs.YtepdkbmnkjfcpaaGreatDoor.Qv
open Go Go.RowKit
section
variable {P : Program} {l : List Oper} {md : Region.Mode} {S : World → Prop} {Q : Exit → Act → World → Prop}

def wpMix (P : Program) (l : List Oper) (Q : Exit → Act → World → Prop) (S : World → Prop) : List (Bool × Nat) → Act → World → Prop
  | [], a, w => Q .normal a w
  | (true, i) :: is, a, w => ∃ o, l[i]? = some o ∧ ∃ v, YieldsIf P l.toArray S o v a ∧ wpMix P l Q S is (a.put o.dst v) w
  | (false, i) :: is, a, w => ∃ o, l[i]? = some o ∧ Region.wanted o (yielded l.toArray a.tmps) = true ∧ o.wp P a w (fun a' w' => S w' ∧ wpMix P l Q S is a' w') Q
def mixB (md : Region.Mode) (ops : Array Oper) : List (Bool × Nat) → Array Bool → Bool
  | [], listed => (Region.ready md ops listed).isEmpty
  | (true, i) :: is, listed => (Region.ready md ops listed).contains i && Region.free md ops listed i && mixB md ops is (listed.setIfInBounds i true)
  | (false, i) :: is, listed => decide (Region.ready md ops listed = [i]) && mixB md ops is (listed.setIfInBounds i true)

theorem wpAnyH_mix (hsel : Region.noSelect l.toArray = true) (hQ : ∀ d v c a w, Q (.panic c) (Act.put a d v) w → Q (.panic c) a w) :
    ∀ (is : List (Bool × Nat)) (listed : Array Bool) (a : Act) (w : World), mixB md l.toArray is listed = true → S w → wpMix P l Q S is a w → wpAnyH P md l.toArray Q S is.length listed a w
  | [], _, _, _, hB, _, h => ⟨by simpa [mixB] using hB, h⟩
  | (true, i) :: is, listed, a, w, hB, hS, h => by
    simp only [mixB, Bool.and_eq_true] at hB
    obtain ⟨⟨hr, hf⟩, hB'⟩ := hB
    obtain ⟨o, h0, v, hy, hK⟩ := h
    have h0' : l.toArray[i]? = some o := by simpa using h0
    exact wpAnyH_take h0' hsel hf hr (fun c a w => hQ _ _ c a w) hy hS (wpAnyH_mix hsel hQ is _ _ _ hB' hS hK)
  | (false, j) :: is, listed, a, w, hB, hS, h => by
    simp only [mixB, Bool.and_eq_true, decide_eq_true_eq] at hB
    refine ⟨fun h1 => (by rw [hB.1] at h1; cases h1), fun i hi => ?_⟩
    rw [hB.1] at hi
    have hik : i = j := by simpa using hi
    subst hik
    have hrec := fun a' w' (hs : S w') (hq : wpMix P l Q S is a' w') => wpAnyH_mix hsel hQ is (listed.setIfInBounds i true) a' w' hB.2 hs hq
    obtain ⟨o, h0, hw, hh⟩ := h
    have h0' : l.toArray[i]? = some o := by simpa using h0
    unfold wpOp
    simp only [h0', hw, if_true]
    exact .inl (Oper.wp_mono (fun a' w' h' => ⟨h'.1, hrec a' w' h'.1 h'.2⟩) hh)

def lexMixB (md : Region.Mode) (ops : Array Oper) (is : List (Bool × Nat)) : Bool :=
  Region.noSelect ops && decide (is.length = ops.size) && mixB md ops is (Array.replicate ops.size false)
end
end Qv
open Qv

theorem wp_region_mix {P : Program} {id : Nat} {Q : Exit → Act → World → Prop} {a : Act} {w : World} {l : List Oper} (I : World → Prop) (is : List (Bool × Nat)) (hm : P.follows .mixedOrders = true) (hB : lexMixB .any l.toArray is = true)
    (hI : I w.drew) (h : wpMix P l (NoPanic Q) (InK I) is a w.drew) : (Code.region id l.toArray true).wp P Q a w := by
  simp only [lexMixB, Bool.and_eq_true, decide_eq_true_eq] at hB
  obtain ⟨⟨hsel, hn⟩, hlex⟩ := hB
  have hS : InK I w.drew := ⟨⟨_, hI⟩, rfl⟩
  refine wp_region_noPanic (wp_region_held_drew (S := InK I) hm hS (fun _ => ?_))
  have := wpAnyH_mix (md := .any) (Q := NoPanic Q) hsel (fun _ _ _ _ _ h => (h : False).elim) is _ a w.drew hlex hS h
  rw [hn] at this
  exact this
theorem mix_take {P : Program} {l : List Oper} {I : World → Prop} {Q : Exit → Act → World → Prop} {i : Nat} {is : List (Bool × Nat)} {a : Act} {w : World} (o : Oper) (ho : l[i]? = some o) (v : Value) (hw : Region.wanted o (yielded l.toArray a.tmps) = true) (hr : ∀ w, InK I w → (execOp a.eval o).run P w = .ok (.value v) w)
    (h : wpMix P l Q (InK I) is (a.put o.dst v) w) : wpMix P l Q (InK I) ((true, i) :: is) a w := ⟨o, ho, v, Or.inl ⟨hw, hr⟩, h⟩
theorem mix_skip {P : Program} {l : List Oper} {I : World → Prop} {Q : Exit → Act → World → Prop} {i : Nat} {is : List (Bool × Nat)} {a : Act} {w : World} (o : Oper) (ho : l[i]? = some o) (hw : Region.wanted o (yielded l.toArray a.tmps) = false)
    (h : wpMix P l Q (InK I) is (a.put o.dst undef) w) : wpMix P l Q (InK I) ((true, i) :: is) a w := ⟨o, ho, undef, Or.inr ⟨hw, rfl⟩, h⟩
theorem mix_do {P : Program} {l : List Oper} {Q : Exit → Act → World → Prop} {I : World → Prop} {i : Nat} {is : List (Bool × Nat)} {a : Act} {w : World} (o : Oper) (ho : l[i]? = some o) (hw : Region.wanted o (yielded l.toArray a.tmps) = true)
    (h : ∀ K' : Act → World → Prop, Shut (∀ a w, I w → wpMix P l Q (InK I) is a w → K' a w) → Oper.wp P o a w K' Q) : wpMix P l Q (InK I) ((false, i) :: is) a w :=
  ⟨o, ho, hw, h _ (fun _ _ hI hs => ⟨⟨⟨_, hI⟩, rfl⟩, hs⟩)⟩
theorem mix_nil {P : Program} {l : List Oper} {Q : Exit → Act → World → Prop} {S : World → Prop} {a : Act} {w : World} (h : Q .normal a w) : wpMix P l (NoPanic Q) S [] a w := h
end Go.Proofs.YtepdkbmnkjfcpaaGreatDoor
