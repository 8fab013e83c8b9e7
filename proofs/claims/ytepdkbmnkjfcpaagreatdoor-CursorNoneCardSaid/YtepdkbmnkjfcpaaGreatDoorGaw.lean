/- Walks: limit, key, Size; Height: the walks. Walks: down, Rank: the walks. -/
import Derived.Test.YtepdkbmnkjfcpaaGreatDoorGav
namespace Go.Proofs.YtepdkbmnkjfcpaaGreatDoor
open Go.RowKit Go.BigFrame Go.Maps Go.WideMaps Lf

theorem getNode_lt {w : World} {ps : Nat} {S : St} {Y : Nat → Prop} (h : StOn w ps S Y) (hh : Nat) : NdLt (getNode S hh).1 := by
  have g := fun k => get_lt h hh k
  unfold getNode
  split
  · exact ⟨g 0, g 1, g 2, g 3, g 4, g 5⟩
  · have z : 0 < 18446744073709551616 := by decide
    exact ⟨z, z, z, z, z, z⟩
theorem num_some {x y : Nat} (h : num x = some y) : y = x ∧ x < 4611686018427387904 := by
  unfold num at h
  split at h
  · rename_i hx; injection h with h; exact ⟨h.symm, by omega⟩
  · cases h
theorem words_le {w : World} {ps : Nat} {S : St} {Y : Nat → Prop} (h : StOn w ps S Y) : S.words ≤ 262144 := by
  obtain ⟨_, _, _, _, _, h⟩ := h
  have := h.heap.wf.room
  have := h.heap.wf.quota
  unfold St.words
  omega

set_option maxRecDepth 100000 in
set_option maxHeartbeats 400000 in
theorem walk_limit {w : World} {ps : Nat} {S : St} {Y : Nat → Prop} (h : StOn w ps S Y) :
    Calls Tryz.prog 213 #[PV ps] w fun e w' => e = .returned (.int .i64 (limit S : Nat)) ∧ Below w.heap.size w w' := by
  have hw := st_words h
  have hle := words_le h
  unfold limit
  generalize S.words = m at *
  have HG := Lib.hid hw
  clear hw h
  go_enter Tryz.func213, Tryz.ntmps213
  go_wp2_with fail
  refine HG.out.mono ?_
  rintro e w1 ⟨rfl, hb⟩
  have HB := Lib.hid hb
  clear hb
  go_wp2_with fail
  go_ret
  exact ⟨by simp, HB.out⟩

set_option maxRecDepth 100000 in
set_option maxHeartbeats 400000 in
theorem walk_key {w : World} {ps : Nat} {S : St} {Y : Nat → Prop} (h : StOn w ps S Y) (hi : Inv S) (n : Nd) (hn : n.key < 18446744073709551616) {t : List UInt8} (ht : textM S n.key = some t) :
    Calls Tryz.prog 338 #[PV ps, ndV n] w fun e w' => e = .returned (SV t) ∧ Below w.heap.size w w' := by
  unfold textM at ht
  split at ht
  · cases ht
  · rename_i h8
    injection ht with ht
    obtain ⟨k0, k1, k2, k3, k4, k5⟩ := n
    simp only at hn ht h8
    have hb1 : Below w.heap.size w (w.alloc (.cells #[.int .u64 k0, .int .u64 k1, .int .u64 k2, .int .u64 k3, .int .u64 k4, .int .u64 k5] 183)) := (Below.refl _ w).alloc (Nat.le_refl _) _
    have hg := blob_get (h.below hb1) hi k0 hn h8
    rw [ht] at hg
    generalize (getBlob S k0).2 = er at *
    unfold ndV
    simp only
    have HG := Lib.hid (And.intro hg hb1)
    clear hg hb1 h hi ht h8
    go_enter Tryz.func338, Tryz.ntmps338
    go_wp2_with fail
    refine HG.out.1.mono ?_
    rintro e w1 ⟨rfl, hb⟩
    have HB := Lib.hid (HG.out.2.trans (hb.mono HG.out.2.size))
    clear hb
    go_wp2_with fail
    go_ret
    exact ⟨rfl, HB.out⟩

set_option maxRecDepth 100000 in
set_option maxHeartbeats 800000 in
theorem walk_size {w : World} {ps : Nat} {S : St} {Y : Nat → Prop} (h : StOn w ps S Y) (hi : Inv S) (hh : Nat) (hl : hh < 18446744073709551616) {z : Nat} (hz : sizeM S hh = some z) :
    Calls Tryz.prog 239 #[PV ps, .int .u64 hh] w fun e w' => e = .returned (.int .i64 z) ∧ Below w.heap.size w w' := by
  have hg := node_get h hi hh hl
  unfold sizeM sizeT at hz
  obtain ⟨rfl, hz2⟩ := num_some hz
  clear hz
  have hez : (getNode S hh).2 ≠ 0 → (getNode S hh).1 = Nd.zero := fun he => by
    unfold getNode at he ⊢
    split
    · rename_i e; rw [e] at he; exact absurd rfl he
    · rfl
  obtain ⟨⟨⟨k0, k1, k2, k3, k4, k5⟩, er⟩, hE⟩ : ∃ r, getNode S hh = r := ⟨_, rfl⟩
  rw [hE] at hg hz2 hez ⊢
  simp only at hg hz2 hez ⊢
  unfold ndV at hg
  simp only at hg
  cases er with
  | succ er =>
    have h0 := hez (by omega)
    injection h0 with h0 h1 h2 h3 h4 h5
    subst h0 h1 h2 h3 h4 h5
    have hq1 : (((er + 1 : Nat) : Int) != 0) = true := by simp; omega
    obtain ⟨g1, hg1⟩ : ∃ g1, er + 1 = g1 := ⟨_, rfl⟩
    rw [hg1] at hg hq1
    have HG := Lib.hid hg
    clear hg h hi hE hez hg1
    go_enter Tryz.func239, Tryz.ntmps239
    go_wp2_with fail
    refine HG.out.mono ?_
    rintro e w1 ⟨rfl, hb⟩
    have HB := Lib.hid (hb.alloc hb.size (.cells #[.int .u64 0, .int .u64 0, .int .u64 0, .int .u64 0, .int .u64 0, .int .u64 0] 183))
    clear hb
    go_wp2_with fail
    go_ret
    exact ⟨rfl, HB.out⟩
  | zero =>
    have HG := Lib.hid hg
    clear hg h hi hE hez
    go_enter Tryz.func239, Tryz.ntmps239
    go_wp2_with fail
    refine HG.out.mono ?_
    rintro e w1 ⟨rfl, hb⟩
    have HB := Lib.hid (hb.alloc hb.size (.cells #[.int .u64 k0, .int .u64 k1, .int .u64 k2, .int .u64 k3, .int .u64 k4, .int .u64 k5] 183))
    clear hb
    go_wp2_with fail
    go_ret
    exact ⟨rfl, HB.out⟩

set_option maxRecDepth 100000 in
set_option maxHeartbeats 800000 in
theorem avl_height {w : World} {ps : Nat} {S : St} {Y : Nat → Prop} (h : StOn w ps S Y) (hi : Inv S) (hh : Nat) (hl : hh < 18446744073709551616) {z : Nat} (hz : heightM S hh = some z) :
    Calls Tryz.prog 232 #[PV ps, .int .u64 hh] w fun e w' => e = .returned (.int .i64 z) ∧ Below w.heap.size w w' := by
  have hg := node_get h hi hh hl
  unfold heightM markT at hz
  obtain ⟨rfl, hz2⟩ := num_some hz
  clear hz
  have hez : (getNode S hh).2 ≠ 0 → (getNode S hh).1 = Nd.zero := fun he => by
    unfold getNode at he ⊢
    split
    · rename_i e; rw [e] at he; exact absurd rfl he
    · rfl
  obtain ⟨⟨⟨k0, k1, k2, k3, k4, k5⟩, er⟩, hE⟩ : ∃ r, getNode S hh = r := ⟨_, rfl⟩
  rw [hE] at hg hz2 hez ⊢
  simp only at hg hz2 hez ⊢
  unfold ndV at hg
  simp only at hg
  cases er with
  | succ er =>
    have h0 := hez (by omega)
    injection h0 with h0 h1 h2 h3 h4 h5
    subst h0 h1 h2 h3 h4 h5
    have hq1 : (((er + 1 : Nat) : Int) != 0) = true := by simp; omega
    obtain ⟨g1, hg1⟩ : ∃ g1, er + 1 = g1 := ⟨_, rfl⟩
    rw [hg1] at hg hq1
    have HG := Lib.hid hg
    clear hg h hi hE hez hg1
    go_enter Tryz.func232, Tryz.ntmps232
    go_wp2_with fail
    refine HG.out.mono ?_
    rintro e w1 ⟨rfl, hb⟩
    have HB := Lib.hid (hb.alloc hb.size (.cells #[.int .u64 0, .int .u64 0, .int .u64 0, .int .u64 0, .int .u64 0, .int .u64 0] 183))
    clear hb
    go_wp2_with fail
    go_ret
    exact ⟨rfl, HB.out⟩
  | zero =>
    have HG := Lib.hid hg
    clear hg h hi hE hez
    go_enter Tryz.func232, Tryz.ntmps232
    go_wp2_with fail
    refine HG.out.mono ?_
    rintro e w1 ⟨rfl, hb⟩
    have HB := Lib.hid (hb.alloc hb.size (.cells #[.int .u64 k0, .int .u64 k1, .int .u64 k2, .int .u64 k3, .int .u64 k4, .int .u64 k5] 183))
    clear hb
    go_wp2_with fail
    go_ret
    exact ⟨rfl, HB.out⟩
end Go.Proofs.YtepdkbmnkjfcpaaGreatDoor

namespace Go.Proofs.YtepdkbmnkjfcpaaGreatDoor
open Go.RowKit Go.BigFrame Go.Maps Go.WideMaps Lf

theorem getNode_err {S : St} {hh : Nat} (h : (getNode S hh).2 ≠ 0) : (getNode S hh).1 = Nd.zero := by
  unfold getNode at h ⊢
  split
  · rename_i e; rw [e] at h; exact absurd rfl h
  · rfl

set_option maxRecDepth 100000 in
set_option maxHeartbeats 3200000 in
theorem walk_down {w : World} {ps : Nat} {S : St} {Y : Nat → Prop} (h : StOn w ps S Y) (hi : Inv S) (root : Nat) (hl : root < 18446744073709551616) (k : List UInt8) {R : Nat × Nat} (hR : downM S k (limit S) root 0 = some R) :
    Calls Tryz.prog 334 #[PV ps, .int .u64 root, SV k] w fun e w' => e = .returned (.tuple #[.int .u64 R.1, .int .i64 R.2]) ∧ Below w.heap.size w w' := by
  have hlm := walk_limit h
  have hle := words_le h
  have hL : limit S ≤ 40000 := by unfold limit; omega
  obtain ⟨L, hLe⟩ : ∃ L, limit S = L := ⟨_, rfl⟩
  rw [hLe] at hlm hL hR
  have hnlt := fun hh => getNode_lt h hh
  have HG := Lib.hid (And.intro hlm (And.intro h (And.intro hi (And.intro hR hnlt))))
  clear hlm h hi hR hle hLe hnlt
  go_enter Tryz.func334, Tryz.ntmps334
  go_wp2_with fail
  refine HG.out.1.mono ?_
  rintro e w1 ⟨rfl, hb1⟩
  have HB1 := Lib.hid hb1
  clear hb1
  go_wp2_with fail
  go_loopw [1, 7, 9, 10, 11, 12] (fun r b i _ _ _ wr => ∃ f root bb ii : Nat, r = .int .u64 root ∧ b = .int .i64 bb ∧ i = .int .i64 ii ∧ f + ii = L ∧ root < 18446744073709551616 ∧ bb < 4611686018427387904 ∧ Hid (downM S k f root bb = some R ∧ Below w.heap.size w wr)) (fun _ _ i _ _ _ _ => L - (intOf i).toNat)
  case atStart => exact ⟨L, root, 0, 0, rfl, rfl, rfl, by omega, hl, by omega, HG.out.2.2.2.1, HB1.out⟩
  case round =>
    obtain ⟨f, root, bb, ii, rfl, rfl, rfl, hf, hrl, hbl, hin⟩ := hrel
    have hi9 : ii ≤ 40000 := by omega
    cases f with
    | zero =>
      have hii : ii = L := by omega
      have hRe : R = (0, bb) := by have h9 := hin.out.1; rw [downM_zero] at h9; exact (Option.some.inj h9).symm
      have HE := Lib.hid (And.intro hRe hin.out.2)
      clear hRe hin
      by_cases hr0 : root = 0
      · subst hr0
        go_wp2_with fail
        go_ret2
        obtain rfl := HE.out.1
        exact ⟨rfl, HE.out.2⟩
      · have hq : ((root : Int) != 0) = true := by simp; omega
        have hge : (L : Int) ≤ ii := by omega
        clear hr0
        go_wp2_with fail
        go_ret2
        obtain rfl := HE.out.1
        exact ⟨rfl, HE.out.2⟩
    | succ f =>
      by_cases hr0 : root = 0
      · have hRe : R = (0, bb) := by have h9 := hin.out.1; rw [downM_succ, if_pos hr0] at h9; exact (Option.some.inj h9).symm
        have HE := Lib.hid (And.intro hRe hin.out.2)
        clear hRe hin
        subst hr0
        go_wp2_with fail
        go_ret2
        obtain rfl := HE.out.1
        exact ⟨rfl, HE.out.2⟩
      · have hq : ((root : Int) != 0) = true := by simp; omega
        have hlt : (ii : Int) < L := by omega
        have hd := hin.out.1
        rw [downM_succ, if_neg hr0] at hd
        have hSr := HG.out.2.1.below hin.out.2
        have hg := node_get hSr HG.out.2.2.1 root hrl
        have hng := HG.out.2.2.2.2 root
        obtain ⟨⟨nd, er⟩, hE⟩ : ∃ r, getNode S root = r := ⟨_, rfl⟩
        rw [hE] at hg hng hd
        simp only at hg hng hd
        obtain ⟨k0, k1, k2, k3, k4, k5⟩ := nd
        obtain ⟨n0, n1, n2, n3, n4, n5⟩ := hng
        simp only at n0 n1 n2 n3 n4 n5
        have hnd : ndV ⟨k0, k1, k2, k3, k4, k5⟩ = .agg #[.int .u64 k0, .int .u64 k1, .int .u64 k2, .int .u64 k3, .int .u64 k4, .int .u64 k5] := rfl
        rw [hnd] at hg
        cases er with
        | succ er =>
          rw [if_pos (by omega)] at hd
          have hd := Option.some.inj hd
          have hq1 : (((er + 1 : Nat) : Int) != 0) = true := by simp; omega
          obtain ⟨g1, hg1⟩ : ∃ g1, er + 1 = g1 := ⟨_, rfl⟩
          rw [hg1] at hg hq1
          have HE := Lib.hid (And.intro hg (And.intro hd hin.out.2))
          clear hg hd hin hSr hE hr0 hg1 hnd
          go_wp2_with fail
          refine HE.out.1.mono ?_
          rintro e w2 ⟨rfl, hb2⟩
          have HB2 := Lib.hid ((HE.out.2.2.trans (hb2.mono HE.out.2.2.size)).alloc (Nat.le_trans HE.out.2.2.size hb2.size) (.cells #[.int .u64 k0, .int .u64 k1, .int .u64 k2, .int .u64 k3, .int .u64 k4, .int .u64 k5] 183))
          clear hb2
          go_wp2_with fail
          go_ret2
          obtain rfl := HE.out.2.1
          exact ⟨rfl, HB2.out⟩
        | zero =>
          rw [if_neg (by omega)] at hd
          cases ht : textM S k0 with
          | none => rw [ht] at hd; cases hd
          | some t =>
            rw [ht] at hd
            simp only at hd
            have HE := Lib.hid (And.intro hg (And.intro hin.out.2 ht))
            clear hg hin hSr hE hr0 ht
            go_wp2_with fail
            refine HE.out.1.mono ?_
            rintro e w2 ⟨rfl, hb2⟩
            have hB2 := (HE.out.2.1.trans (hb2.mono HE.out.2.1.size)).alloc (Nat.le_trans HE.out.2.1.size hb2.size) (.cells #[.int .u64 k0, .int .u64 k1, .int .u64 k2, .int .u64 k3, .int .u64 k4, .int .u64 k5] 183)
            have hk := walk_key (HG.out.2.1.below hB2) HG.out.2.2.1 ⟨k0, k1, k2, k3, k4, k5⟩ n0 HE.out.2.2
            rw [hnd] at hk
            have hx := heap_alloc_new w2 (.cells #[.int .u64 k0, .int .u64 k1, .int .u64 k2, .int .u64 k3, .int .u64 k4, .int .u64 k5] 183)
            have hlt2 : w2.heap.size < (w2.alloc (.cells #[.int .u64 k0, .int .u64 k1, .int .u64 k2, .int .u64 k3, .int .u64 k4, .int .u64 k5] 183)).heap.size := by simp
            have HK := Lib.hid (And.intro hk (And.intro hB2 (And.intro hx hlt2)))
            clear hb2 hB2 hk hx hlt2 hnd
            go_wp2_with fail
            refine HK.out.1.mono ?_
            rintro e w3 ⟨rfl, hb3⟩
            have HC := Lib.hid (text_compare k t w3)
            have hB3 := HK.out.2.1.trans (hb3.mono HK.out.2.1.size)
            have hx3 := (hb3.block _ HK.out.2.2.2).trans HK.out.2.2.1
            have a2 : w3.cell? ⟨w2.heap.size, 2, none⟩ = some (.int .u64 k2) := by rw [cell_of_block hx3]; rfl
            have a3 : w3.cell? ⟨w2.heap.size, 3, none⟩ = some (.int .u64 k3) := by rw [cell_of_block hx3]; rfl
            have HB3 := Lib.hid hB3
            clear hb3 hB3 hx3
            go_wp2_with fail
            refine HC.out.mono ?_
            rintro e w4 ⟨rfl, rfl⟩
            generalize cmpB k t = c at *
            by_cases hc : c < 0
            · rw [if_pos hc] at hd
              have HD := Lib.hid hd
              clear hd
              go_wp2_with fail
              go_roundw
              case rel => exact ⟨f, k2, bb, ii + 1, rfl, rfl, by simp, by omega, n2, hbl, HD.out, HB3.out⟩
              case measure => simp [intOf]; omega
            · rw [if_neg hc] at hd
              cases hz : sizeM S k2 with
              | none => rw [hz] at hd; cases hd
              | some z =>
                rw [hz] at hd
                simp only at hd
                have hzl : z < 4611686018427387904 := by have := num_some hz; omega
                have hsz := walk_size (HG.out.2.1.below HB3.out) HG.out.2.2.1 k2 n2 hz
                by_cases hc2 : 0 < c
                · rw [if_pos hc2] at hd
                  cases hn : num (bb + (z + 1)) with
                  | none => rw [hn] at hd; cases hd
                  | some b2 =>
                    rw [hn] at hd
                    simp only at hd
                    obtain ⟨rfl, hn2⟩ := num_some hn
                    have HD := Lib.hid (And.intro hd hsz)
                    clear hd hsz hn hz
                    go_wp2_with fail
                    refine HD.out.2.mono ?_
                    rintro e w5 ⟨rfl, hb5⟩
                    have a3' : w5.cell? ⟨w2.heap.size, 3, none⟩ = some (.int .u64 k3) := by

                      rw [← a3]
                      refine hb5.cell (p := ⟨w2.heap.size, 3, none⟩) ?_
                      unfold World.cell? at a3
                      split at a3
                      · rename_i heq; exact (Array.getElem?_eq_some_iff.1 heq).1
                      · cases a3
                    have HB5 := Lib.hid (HB3.out.trans (hb5.mono HB3.out.size))
                    clear hb5
                    go_wp2_with fail
                    go_roundw
                    case rel => exact ⟨f, k3, bb + (z + 1), ii + 1, rfl, by simp, by simp, by omega, n3, hn2, HD.out.1, HB5.out⟩
                    case measure => simp [intOf]; omega
                · rw [if_neg hc2] at hd
                  obtain rfl : c = 0 := by omega
                  cases hn : num (bb + z) with
                  | none => rw [hn] at hd; cases hd
                  | some b2 =>
                    rw [hn] at hd
                    simp only at hd
                    obtain ⟨rfl, hn2⟩ := num_some hn
                    have hd := Option.some.inj hd
                    have HD := Lib.hid (And.intro hd hsz)
                    clear hd hsz hn hz
                    go_wp2_with fail
                    refine HD.out.2.mono ?_
                    rintro e w5 ⟨rfl, hb5⟩
                    have HB5 := Lib.hid (HB3.out.trans (hb5.mono HB3.out.size))
                    clear hb5
                    go_wp2_with fail
                    go_ret2
                    obtain rfl := HD.out.1
                    exact ⟨by simp, HB5.out⟩

set_option maxRecDepth 100000 in
set_option maxHeartbeats 400000 in
theorem walk_rank {w : World} {ps : Nat} {S : St} {Y : Nat → Prop} (h : StOn w ps S Y) (hi : Inv S) (root : Nat) (hl : root < 18446744073709551616) (k : List UInt8) {z : Nat} (hR : rankM S root k = some z) :
    Calls Tryz.prog 332 #[PV ps, .int .u64 root, SV k] w fun e w' => e = .returned (.int .i64 z) ∧ Below w.heap.size w w' := by
  unfold rankM at hR
  cases hd : downM S k (limit S) root 0 with
  | none => rw [hd] at hR; cases hR
  | some R =>
    rw [hd] at hR
    injection hR with hR
    have HG := Lib.hid (And.intro (walk_down h hi root hl k hd) hR)
    clear h hi hd hR
    go_enter Tryz.func332, Tryz.ntmps332
    go_wp2_with fail
    refine HG.out.1.mono ?_
    rintro e w1 ⟨rfl, hb⟩
    have HB := Lib.hid hb
    clear hb
    go_wp2_with fail
    go_ret
    obtain rfl := HG.out.2
    exact ⟨rfl, HB.out⟩
end Go.Proofs.YtepdkbmnkjfcpaaGreatDoor
