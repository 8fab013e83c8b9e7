import Derived.Test.YtcibkdbpicledaaGreatDoorWaj
import Derived.Test.YtcibkdbpicledaaGreatDoorWac
set_option maxRecDepth 100000
set_option maxHeartbeats 3200000
namespace Go.Proofs.YtcibkdbpicledaaGreatDoor
open Go.RowKit Go.BigFrame Go.Maps Go.WideMaps Lf
theorem getNode_lt {w : World} {ps : Nat} {S : St} {Y : Nat → Prop} (h : StOn w ps S Y) (hh : Nat) : NdLt (getNode S hh).1 := by
 have g := fun k => get_lt h hh k
 unfold getNode
 split
 · exact ⟨g 0, g 1, g 2, g 3, g 4, g 5⟩
 · have z : 0 < 18446744073709551616 := by decide
   exact ⟨z, z, z, z, z, z⟩
theorem num_some {x y : Nat} (h : num x = some y) : y = x ∧ x < 4611686018427387904 := by
 unfold num at h
 split at h
 · rename_i hx; injection h with h; exact ⟨h.symm, by omega⟩
 · cases h
theorem words_le {w : World} {ps : Nat} {S : St} {Y : Nat → Prop} (h : StOn w ps S Y) : S.words ≤ 262144 := by
 obtain ⟨_, _, _, _, _, h⟩ := h
 have := h.heap.wf.room
 have := h.heap.wf.quota
 unfold St.words
 omega
theorem walk_limit {w : World} {ps : Nat} {S : St} {Y : Nat → Prop} (h : StOn w ps S Y) :
 Calls Tryz.prog 187 #[PV ps] w fun e w' => e = .returned (.int .i64 (limit S : Nat)) ∧ Below w.heap.size w w' := by
 have hw := st_words h
 have hle := words_le h
 unfold limit
 generalize S.words = m at *
 have HG := Lib.hid hw
 clear hw h
 go_enter Tryz.func187, Tryz.ntmps187
 go_wp2_with fail
 refine HG.out.mono ?_
 rintro e w1 ⟨rfl, hb⟩
 have HB := Lib.hid hb
 clear hb
 go_wp2_with fail
 go_ret
 exact ⟨by simp, HB.out⟩
theorem walk_key {w : World} {ps : Nat} {S : St} {Y : Nat → Prop} (h : StOn w ps S Y) (hi : Inv S) (n : Nd) (hn : n.key < 18446744073709551616) {t : List UInt8} (ht : textM S n.key = some t) :
 Calls Tryz.prog 305 #[PV ps, ndV n] w fun e w' => e = .returned (SV t) ∧ Below w.heap.size w w' := by
 unfold textM at ht
 split at ht
 · cases ht
 · rename_i h8
   injection ht with ht
   obtain ⟨k0, k1, k2, k3, k4, k5⟩ := n
   simp only at hn ht h8
   have hb1 : Below w.heap.size w (w.alloc (.cells #[.int .u64 k0, .int .u64 k1, .int .u64 k2, .int .u64 k3, .int .u64 k4, .int .u64 k5] 232)) := (Below.refl _ w).alloc (Nat.le_refl _) _
   have hg := blob_get (h.below hb1) hi k0 hn h8
   rw [ht] at hg
   generalize (getBlob S k0).2 = er at *
   unfold ndV
   simp only
   have HG := kq2 hg hb1
   clear hg hb1 h hi ht h8
   go_enter Tryz.func305, Tryz.ntmps305
   go_wp2_with fail
   refine HG.out.1.mono ?_
   rintro e w1 ⟨rfl, hb⟩
   have HB := Lib.hid (HG.out.2.trans (hb.mono HG.out.2.size))
   clear hb
   go_wp2_with fail
   go_ret
   exact ⟨rfl, HB.out⟩
theorem walk_size {w : World} {ps : Nat} {S : St} {Y : Nat → Prop} (h : StOn w ps S Y) (hi : Inv S) (hh : Nat) (hl : hh < 18446744073709551616) {z : Nat} (hz : sizeM S hh = some z) :
 Calls Tryz.prog 253 #[PV ps, .int .u64 hh] w fun e w' => e = .returned (.int .i64 z) ∧ Below w.heap.size w w' := by
 have hg := node_get h hi hh hl
 unfold sizeM sizeT at hz
 obtain ⟨rfl, hz2⟩ := num_some hz
 clear hz
 have hez : (getNode S hh).2 ≠ 0 → (getNode S hh).1 = Nd.zero := fun he => by
  unfold getNode at he ⊢
  split
  · rename_i e; rw [e] at he; exact absurd rfl he
  · rfl
 obtain ⟨⟨⟨k0, k1, k2, k3, k4, k5⟩, er⟩, hE⟩ : ∃ r, getNode S hh = r := ⟨_, rfl⟩
 rw [hE] at hg hz2 hez ⊢
 simp only at hg hz2 hez ⊢
 unfold ndV at hg
 simp only at hg
 cases er with
 | succ er =>
  have h0 := hez (by omega)
  injection h0 with h0 h1 h2 h3 h4 h5
  subst h0 h1 h2 h3 h4 h5
  have hq1 : (((er + 1 : Nat) : Int) != 0) = true := by simp; omega
  obtain ⟨g1, hg1⟩ : ∃ g1, er + 1 = g1 := ⟨_, rfl⟩
  rw [hg1] at hg hq1
  have HG := Lib.hid hg
  clear hg h hi hE hez hg1
  go_enter Tryz.func253, Tryz.ntmps253
  go_wp2_with fail
  refine HG.out.mono ?_
  rintro e w1 ⟨rfl, hb⟩
  have HB := Lib.hid (hb.alloc hb.size (.cells #[.int .u64 0, .int .u64 0, .int .u64 0, .int .u64 0, .int .u64 0, .int .u64 0] 232))
  clear hb
  go_wp2_with fail
  go_ret
  exact ⟨rfl, HB.out⟩
 | zero =>
  have HG := Lib.hid hg
  clear hg h hi hE hez
  go_enter Tryz.func253, Tryz.ntmps253
  go_wp2_with fail
  refine HG.out.mono ?_
  rintro e w1 ⟨rfl, hb⟩
  have HB := Lib.hid (hb.alloc hb.size (.cells #[.int .u64 k0, .int .u64 k1, .int .u64 k2, .int .u64 k3, .int .u64 k4, .int .u64 k5] 232))
  clear hb
  go_wp2_with fail
  go_ret
  exact ⟨rfl, HB.out⟩
theorem avl_height {w : World} {ps : Nat} {S : St} {Y : Nat → Prop} (h : StOn w ps S Y) (hi : Inv S) (hh : Nat) (hl : hh < 18446744073709551616) {z : Nat} (hz : heightM S hh = some z) :
 Calls Tryz.prog 222 #[PV ps, .int .u64 hh] w fun e w' => e = .returned (.int .i64 z) ∧ Below w.heap.size w w' := by
 have hg := node_get h hi hh hl
 unfold heightM markT at hz
 obtain ⟨rfl, hz2⟩ := num_some hz
 clear hz
 have hez : (getNode S hh).2 ≠ 0 → (getNode S hh).1 = Nd.zero := fun he => by
  unfold getNode at he ⊢
  split
  · rename_i e; rw [e] at he; exact absurd rfl he
  · rfl
 obtain ⟨⟨⟨k0, k1, k2, k3, k4, k5⟩, er⟩, hE⟩ : ∃ r, getNode S hh = r := ⟨_, rfl⟩
 rw [hE] at hg hz2 hez ⊢
 simp only at hg hz2 hez ⊢
 unfold ndV at hg
 simp only at hg
 cases er with
 | succ er =>
  have h0 := hez (by omega)
  injection h0 with h0 h1 h2 h3 h4 h5
  subst h0 h1 h2 h3 h4 h5
  have hq1 : (((er + 1 : Nat) : Int) != 0) = true := by simp; omega
  obtain ⟨g1, hg1⟩ : ∃ g1, er + 1 = g1 := ⟨_, rfl⟩
  rw [hg1] at hg hq1
  have HG := Lib.hid hg
  clear hg h hi hE hez hg1
  go_enter Tryz.func222, Tryz.ntmps222
  go_wp2_with fail
  refine HG.out.mono ?_
  rintro e w1 ⟨rfl, hb⟩
  have HB := Lib.hid (hb.alloc hb.size (.cells #[.int .u64 0, .int .u64 0, .int .u64 0, .int .u64 0, .int .u64 0, .int .u64 0] 232))
  clear hb
  go_wp2_with fail
  go_ret
  exact ⟨rfl, HB.out⟩
 | zero =>
  have HG := Lib.hid hg
  clear hg h hi hE hez
  go_enter Tryz.func222, Tryz.ntmps222
  go_wp2_with fail
  refine HG.out.mono ?_
  rintro e w1 ⟨rfl, hb⟩
  have HB := Lib.hid (hb.alloc hb.size (.cells #[.int .u64 k0, .int .u64 k1, .int .u64 k2, .int .u64 k3, .int .u64 k4, .int .u64 k5] 232))
  clear hb
  go_wp2_with fail
  go_ret
  exact ⟨rfl, HB.out⟩
theorem walk_down {w : World} {ps : Nat} {S : St} {Y : Nat → Prop} (h : StOn w ps S Y) (hi : Inv S) (root : Nat) (hl : root < 18446744073709551616) (k : List UInt8) {R : Nat × Nat} (hR : downM S k (limit S) root 0 = some R) :
 Calls Tryz.prog 300 #[PV ps, .int .u64 root, SV k] w fun e w' => e = .returned (.tuple #[.int .u64 R.1, .int .i64 R.2]) ∧ Below w.heap.size w w' := by
 have hlm := walk_limit h
 have hle := words_le h
 have hL : limit S ≤ 40000 := by unfold limit; omega
 obtain ⟨L, hLe⟩ : ∃ L, limit S = L := ⟨_, rfl⟩
 rw [hLe] at hlm hL hR
 have hnlt := fun hh => getNode_lt h hh
 have HG := kq5 hlm h hi hR hnlt
 clear hlm h hi hR hle hLe hnlt
 go_enter Tryz.func300, Tryz.ntmps300
 go_wp2_with fail
 refine HG.out.1.mono ?_
 rintro e w1 ⟨rfl, hb1⟩
 have HB1 := Lib.hid hb1
 clear hb1
 go_wp2_with fail
 go_loopw [1, 7, 9, 10, 11, 12] (fun r b i _ _ _ wr => ∃ f root bb ii : Nat, r = .int .u64 root ∧ b = .int .i64 bb ∧ i = .int .i64 ii ∧ f + ii = L ∧ root < 18446744073709551616 ∧ bb < 4611686018427387904 ∧ Hid (downM S k f root bb = some R ∧ Below w.heap.size w wr)) (fun _ _ i _ _ _ _ => L - (intOf i).toNat)
 case atStart => exact ⟨L, root, 0, 0, rfl, rfl, rfl, by omega, hl, by omega, HG.out.2.2.2.1, HB1.out⟩
 case round =>
  obtain ⟨f, root, bb, ii, rfl, rfl, rfl, hf, hrl, hbl, hin⟩ := hrel
  have hi9 : ii ≤ 40000 := by omega
  cases f with
  | zero =>
   have hii : ii = L := by omega
   have hRe : R = (0, bb) := by have h9 := hin.out.1; rw [downM_zero] at h9; exact (Option.some.inj h9).symm
   have HE := kq2 hRe hin.out.2
   clear hRe hin
   by_cases hr0 : root = 0
   · subst hr0
     go_wp2_with fail
     go_ret2
     obtain rfl := HE.out.1
     exact ⟨rfl, HE.out.2⟩
   · have hq : ((root : Int) != 0) = true := by simp; omega
     have hge : (L : Int) ≤ ii := by omega
     clear hr0
     go_wp2_with fail
     go_ret2
     obtain rfl := HE.out.1
     exact ⟨rfl, HE.out.2⟩
  | succ f =>
   by_cases hr0 : root = 0
   · have hRe : R = (0, bb) := by have h9 := hin.out.1; rw [downM_succ, if_pos hr0] at h9; exact (Option.some.inj h9).symm
     have HE := kq2 hRe hin.out.2
     clear hRe hin
     subst hr0
     go_wp2_with fail
     go_ret2
     obtain rfl := HE.out.1
     exact ⟨rfl, HE.out.2⟩
   · have hq : ((root : Int) != 0) = true := by simp; omega
     have hlt : (ii : Int) < L := by omega
     have hd := hin.out.1
     rw [downM_succ, if_neg hr0] at hd
     have hSr := HG.out.2.1.below hin.out.2
     have hg := node_get hSr HG.out.2.2.1 root hrl
     have hng := HG.out.2.2.2.2 root
     obtain ⟨⟨nd, er⟩, hE⟩ : ∃ r, getNode S root = r := ⟨_, rfl⟩
     rw [hE] at hg hng hd
     simp only at hg hng hd
     obtain ⟨k0, k1, k2, k3, k4, k5⟩ := nd
     obtain ⟨n0, n1, n2, n3, n4, n5⟩ := hng
     simp only at n0 n1 n2 n3 n4 n5
     have hnd : ndV ⟨k0, k1, k2, k3, k4, k5⟩ = .agg #[.int .u64 k0, .int .u64 k1, .int .u64 k2, .int .u64 k3, .int .u64 k4, .int .u64 k5] := rfl
     rw [hnd] at hg
     cases er with
     | succ er =>
      rw [if_pos (by omega)] at hd
      have hd := Option.some.inj hd
      have hq1 : (((er + 1 : Nat) : Int) != 0) = true := by simp; omega
      obtain ⟨g1, hg1⟩ : ∃ g1, er + 1 = g1 := ⟨_, rfl⟩
      rw [hg1] at hg hq1
      have HE := kq3 hg hd hin.out.2
      clear hg hd hin hSr hE hr0 hg1 hnd
      go_wp2_with fail
      refine HE.out.1.mono ?_
      rintro e w2 ⟨rfl, hb2⟩
      have HB2 := Lib.hid ((HE.out.2.2.trans (hb2.mono HE.out.2.2.size)).alloc (Nat.le_trans HE.out.2.2.size hb2.size) (.cells #[.int .u64 k0, .int .u64 k1, .int .u64 k2, .int .u64 k3, .int .u64 k4, .int .u64 k5] 232))
      clear hb2
      go_wp2_with fail
      go_ret2
      obtain rfl := HE.out.2.1
      exact ⟨rfl, HB2.out⟩
     | zero =>
      rw [if_neg (by omega)] at hd
      cases ht : textM S k0 with
      | none => rw [ht] at hd; cases hd
      | some t =>
       rw [ht] at hd
       simp only at hd
       have HE := kq3 hg hin.out.2 ht
       clear hg hin hSr hE hr0 ht
       go_wp2_with fail
       refine HE.out.1.mono ?_
       rintro e w2 ⟨rfl, hb2⟩
       have hB2 := (HE.out.2.1.trans (hb2.mono HE.out.2.1.size)).alloc (Nat.le_trans HE.out.2.1.size hb2.size) (.cells #[.int .u64 k0, .int .u64 k1, .int .u64 k2, .int .u64 k3, .int .u64 k4, .int .u64 k5] 232)
       have hk := walk_key (HG.out.2.1.below hB2) HG.out.2.2.1 ⟨k0, k1, k2, k3, k4, k5⟩ n0 HE.out.2.2
       rw [hnd] at hk
       have hx := heap_alloc_new w2 (.cells #[.int .u64 k0, .int .u64 k1, .int .u64 k2, .int .u64 k3, .int .u64 k4, .int .u64 k5] 232)
       have hlt2 : w2.heap.size < (w2.alloc (.cells #[.int .u64 k0, .int .u64 k1, .int .u64 k2, .int .u64 k3, .int .u64 k4, .int .u64 k5] 232)).heap.size := by simp
       have HK := kq4 hk hB2 hx hlt2
       clear hb2 hB2 hk hx hlt2 hnd
       go_wp2_with fail
       refine HK.out.1.mono ?_
       rintro e w3 ⟨rfl, hb3⟩
       have HC := Lib.hid (text_compare k t w3)
       have hB3 := HK.out.2.1.trans (hb3.mono HK.out.2.1.size)
       have hx3 := (hb3.block _ HK.out.2.2.2).trans HK.out.2.2.1
       have a2 : w3.cell? ⟨w2.heap.size, 2, none⟩ = some (.int .u64 k2) := by rw [cell_of_block hx3]; rfl
       have a3 : w3.cell? ⟨w2.heap.size, 3, none⟩ = some (.int .u64 k3) := by rw [cell_of_block hx3]; rfl
       have HB3 := Lib.hid hB3
       clear hb3 hB3 hx3
       go_wp2_with fail
       refine HC.out.mono ?_
       rintro e w4 ⟨rfl, rfl⟩
       generalize cmpB k t = c at *
       by_cases hc : c < 0
       · rw [if_pos hc] at hd
         have HD := Lib.hid hd
         clear hd
         go_wp2_with fail
         go_roundw
         case rel => exact ⟨f, k2, bb, ii + 1, rfl, rfl, by simp, by omega, n2, hbl, HD.out, HB3.out⟩
         case measure => simp [intOf]; omega
       · rw [if_neg hc] at hd
         cases hz : sizeM S k2 with
         | none => rw [hz] at hd; cases hd
         | some z =>
          rw [hz] at hd
          simp only at hd
          have hzl : z < 4611686018427387904 := by have := num_some hz; omega
          have hsz := walk_size (HG.out.2.1.below HB3.out) HG.out.2.2.1 k2 n2 hz
          by_cases hc2 : 0 < c
          · rw [if_pos hc2] at hd
            cases hn : num (bb + (z + 1)) with
            | none => rw [hn] at hd; cases hd
            | some b2 =>
             rw [hn] at hd
             simp only at hd
             obtain ⟨rfl, hn2⟩ := num_some hn
             have HD := kq2 hd hsz
             clear hd hsz hn hz
             go_wp2_with fail
             refine HD.out.2.mono ?_
             rintro e w5 ⟨rfl, hb5⟩
             have a3' : w5.cell? ⟨w2.heap.size, 3, none⟩ = some (.int .u64 k3) := by
              rw [← a3]
              refine hb5.cell (p := ⟨w2.heap.size, 3, none⟩) ?_
              unfold World.cell? at a3
              split at a3
              · rename_i heq; exact (gl heq)
              · cases a3
             have HB5 := Lib.hid (HB3.out.trans (hb5.mono HB3.out.size))
             clear hb5
             go_wp2_with fail
             go_roundw
             case rel => exact ⟨f, k3, bb + (z + 1), ii + 1, rfl, by simp, by simp, by omega, n3, hn2, HD.out.1, HB5.out⟩
             case measure => simp [intOf]; omega
          · rw [if_neg hc2] at hd
            obtain rfl : c = 0 := by omega
            cases hn : num (bb + z) with
            | none => rw [hn] at hd; cases hd
            | some b2 =>
             rw [hn] at hd
             simp only at hd
             obtain ⟨rfl, hn2⟩ := num_some hn
             have hd := Option.some.inj hd
             have HD := kq2 hd hsz
             clear hd hsz hn hz
             go_wp2_with fail
             refine HD.out.2.mono ?_
             rintro e w5 ⟨rfl, hb5⟩
             have HB5 := Lib.hid (HB3.out.trans (hb5.mono HB3.out.size))
             clear hb5
             go_wp2_with fail
             go_ret2
             obtain rfl := HD.out.1
             exact ⟨by simp, HB5.out⟩
theorem walk_rank {w : World} {ps : Nat} {S : St} {Y : Nat → Prop} (h : StOn w ps S Y) (hi : Inv S) (root : Nat) (hl : root < 18446744073709551616) (k : List UInt8) {z : Nat} (hR : rankM S root k = some z) :
 Calls Tryz.prog 298 #[PV ps, .int .u64 root, SV k] w fun e w' => e = .returned (.int .i64 z) ∧ Below w.heap.size w w' := by
 unfold rankM at hR
 cases hd : downM S k (limit S) root 0 with
 | none => rw [hd] at hR; cases hR
 | some R =>
  rw [hd] at hR
  injection hR with hR
  have HG := kq2 (walk_down h hi root hl k hd) hR
  clear h hi hd hR
  go_enter Tryz.func298, Tryz.ntmps298
  go_wp2_with fail
  refine HG.out.1.mono ?_
  rintro e w1 ⟨rfl, hb⟩
  have HB := Lib.hid hb
  clear hb
  go_wp2_with fail
  go_ret
  obtain rfl := HG.out.2
  exact ⟨rfl, HB.out⟩
def trV (n : Nd) (h : Nat) : Value := .agg #[.int .u64 n.key, .int .u64 n.val, .int .u64 n.left, .int .u64 n.right, .int .u64 n.mark, .int .u64 n.size, .int .u64 h]
theorem st7_heap {W : World} {b : Nat} {u0 u1 u2 u3 u4 u5 u6 : Value} {t : TypeId} {fr : Nat × Nat} (h : W.heap[b]? = some (.cells #[u0, u1, u2, u3, u4, u5, u6] t fr)) (v0 v1 v2 v3 v4 v5 v6 : Value) : (((((((W.setCell ⟨b, 0, none⟩ (v0)).setCell ⟨b, 1, none⟩ (v1)).setCell ⟨b, 2, none⟩ (v2)).setCell ⟨b, 3, none⟩ (v3)).setCell ⟨b, 4, none⟩ (v4)).setCell ⟨b, 5, none⟩ (v5)).setCell ⟨b, 6, none⟩ (v6)).heap[b]? = some (.cells #[v0, v1, v2, v3, v4, v5, v6] t fr) := by
 rw [heap_setCell (heap_setCell (heap_setCell (heap_setCell (heap_setCell (heap_setCell (heap_setCell h))))))]
 rfl
theorem st7_below {w W : World} {b : Nat} (h : Below w.heap.size w W) (hb : w.heap.size ≤ b) (v0 v1 v2 v3 v4 v5 v6 : Value) : Below w.heap.size w (((((((W.setCell ⟨b, 0, none⟩ (v0)).setCell ⟨b, 1, none⟩ (v1)).setCell ⟨b, 2, none⟩ (v2)).setCell ⟨b, 3, none⟩ (v3)).setCell ⟨b, 4, none⟩ (v4)).setCell ⟨b, 5, none⟩ (v5)).setCell ⟨b, 6, none⟩ (v6)) :=
 ((((((h.setCell (p := ⟨b, 0, none⟩) hb _).setCell (p := ⟨b, 1, none⟩) hb _).setCell (p := ⟨b, 2, none⟩) hb _).setCell (p := ⟨b, 3, none⟩) hb _).setCell (p := ⟨b, 4, none⟩) hb _).setCell (p := ⟨b, 5, none⟩) hb _).setCell (p := ⟨b, 6, none⟩) hb _
theorem avl_get {w : World} {ps : Nat} {S : St} {Y : Nat → Prop} (h : StOn w ps S Y) (hi : Inv S) (hh : Nat) (hl : hh < 18446744073709551616) :
 Calls Tryz.prog 220 #[PV ps, .int .u64 hh] w fun e w' => e = .returned (trV (getNode S hh).1 hh) ∧ Below w.heap.size w w' := by
 have hb1 : Below w.heap.size w (w.alloc (.cells #[.int .u64 0, .int .u64 0, .int .u64 0, .int .u64 0, .int .u64 0, .int .u64 0, .int .u64 0] 319)) := (Below.refl _ w).alloc (Nat.le_refl _) _
 have hg := node_get (h.below hb1) hi hh hl
 obtain ⟨⟨⟨k0, k1, k2, k3, k4, k5⟩, er⟩, hE⟩ : ∃ r, getNode S hh = r := ⟨_, rfl⟩
 rw [hE] at hg ⊢
 unfold ndV at hg
 unfold trV
 simp only at hg ⊢
 have hx := heap_alloc_new w (.cells #[.int .u64 0, .int .u64 0, .int .u64 0, .int .u64 0, .int .u64 0, .int .u64 0, .int .u64 0] 319)
 have HG := kq3 hg hb1 hx
 clear hg hb1 h hi hE hx
 go_enter Tryz.func220, Tryz.ntmps220
 go_wp2_with fail
 refine HG.out.1.mono ?_
 rintro e w1 ⟨rfl, hb⟩
 have r0 := (hb.block w.heap.size (by simp)).trans HG.out.2.2
 obtain ⟨b0, b1, b2, b3, b4, b5, b6⟩ := cells7 r0
 obtain ⟨f0, f1, f2, f3, f4, f5, f6⟩ := frees7 r0
 have hlt : w.heap.size < w1.heap.size := (gl r0)
 have HB := kq2 r0 (HG.out.2.1.trans (hb.mono HG.out.2.1.size))
 clear r0 hb
 go_wp2_with fail
 have hX := st7_heap HB.out.1 (.int .u64 k0) (.int .u64 k1) (.int .u64 k2) (.int .u64 k3) (.int .u64 k4) (.int .u64 k5) (.int .u64 hh)
 have hY := st7_below HB.out.2 (Nat.le_refl w.heap.size) (.int .u64 k0) (.int .u64 k1) (.int .u64 k2) (.int .u64 k3) (.int .u64 k4) (.int .u64 k5) (.int .u64 hh)
 have hs7 : (((((((w1.setCell ⟨w.heap.size, 0, none⟩ (.int .u64 k0)).setCell ⟨w.heap.size, 1, none⟩ (.int .u64 k1)).setCell ⟨w.heap.size, 2, none⟩ (.int .u64 k2)).setCell ⟨w.heap.size, 3, none⟩ (.int .u64 k3)).setCell ⟨w.heap.size, 4, none⟩ (.int .u64 k4)).setCell ⟨w.heap.size, 5, none⟩ (.int .u64 k5)).setCell ⟨w.heap.size, 6, none⟩ (.int .u64 hh)).heap.size = w1.heap.size := by simp
 generalize (((((((w1.setCell ⟨w.heap.size, 0, none⟩ (.int .u64 k0)).setCell ⟨w.heap.size, 1, none⟩ (.int .u64 k1)).setCell ⟨w.heap.size, 2, none⟩ (.int .u64 k2)).setCell ⟨w.heap.size, 3, none⟩ (.int .u64 k3)).setCell ⟨w.heap.size, 4, none⟩ (.int .u64 k4)).setCell ⟨w.heap.size, 5, none⟩ (.int .u64 k5)).setCell ⟨w.heap.size, 6, none⟩ (.int .u64 hh)) = W9 at *
 have hX2 : (W9.alloc (.cells #[.int .u64 k0, .int .u64 k1, .int .u64 k2, .int .u64 k3, .int .u64 k4, .int .u64 k5] 232)).heap[w.heap.size]? = some (.cells #[.int .u64 k0, .int .u64 k1, .int .u64 k2, .int .u64 k3, .int .u64 k4, .int .u64 k5, .int .u64 hh] 319 (0, 0)) := by rw [heap_alloc_old _ _ (by omega)]; exact hX
 have hY2 := hY.alloc hY.size (.cells #[.int .u64 k0, .int .u64 k1, .int .u64 k2, .int .u64 k3, .int .u64 k4, .int .u64 k5] 232)
 generalize W9.alloc (.cells #[.int .u64 k0, .int .u64 k1, .int .u64 k2, .int .u64 k3, .int .u64 k4, .int .u64 k5] 232) = W10 at *
 obtain ⟨e0, e1, e2, e3, e4, e5, e6⟩ := cells7 hX2
 exact bodyPost_ret (v := .agg #[.int .u64 k0, .int .u64 k1, .int .u64 k2, .int .u64 k3, .int .u64 k4, .int .u64 k5, .int .u64 hh]) (by simp [results, Tryz.f220, go_sem, e0, e1, e2, e3, e4, e5, e6]) rfl ⟨rfl, hY2⟩
theorem avl_is {w : World} {ps : Nat} {S : St} {Y : Nat → Prop} (h : StOn w ps S Y) (hi : Inv S) (hh : Nat) (hl : hh < 18446744073709551616) :
 Calls Tryz.prog 218 #[PV ps, .int .u64 hh] w fun e w' => e = .returned (.bool (isT S hh)) ∧ Below w.heap.size w w' := by
 have hg := node_get h hi hh hl
 obtain ⟨R, hR⟩ : ∃ R, isT S hh = R := ⟨_, rfl⟩
 rw [hR]
 unfold isT at hR
 obtain ⟨⟨⟨k0, k1, k2, k3, k4, k5⟩, er⟩, hE⟩ : ∃ r, getNode S hh = r := ⟨_, rfl⟩
 rw [hE] at hg hR
 unfold ndV at hg
 simp only at hg hR
 have hR1 : R = (((hh : Int) == 0) || ((er : Int) == 0)) := by
  rw [← hR]
  by_cases a : hh = 0 <;> by_cases b : er = 0 <;> simp [a, b] <;> omega
 have HG := kq2 hg hR1
 clear hg h hi hE hR hR1
 by_cases h0 : hh = 0
 · subst h0
   go_enter Tryz.func218, Tryz.ntmps218
   go_wp2_with fail
   refine HG.out.1.mono ?_
   rintro e w1 ⟨rfl, hb⟩
   have HB := Lib.hid (hb.alloc hb.size (.cells #[.int .u64 k0, .int .u64 k1, .int .u64 k2, .int .u64 k3, .int .u64 k4, .int .u64 k5] 232))
   clear hb
   go_wp2_with fail
   go_ret
   obtain rfl := HG.out.2
   exact ⟨by simp, HB.out⟩
 · have hq : ((hh : Int) == 0) = false := by simp; omega
   go_enter Tryz.func218, Tryz.ntmps218
   go_wp2_with fail
   refine HG.out.1.mono ?_
   rintro e w1 ⟨rfl, hb⟩
   have HB := Lib.hid (hb.alloc hb.size (.cells #[.int .u64 k0, .int .u64 k1, .int .u64 k2, .int .u64 k3, .int .u64 k4, .int .u64 k5] 232))
   clear hb
   go_wp2_with fail
   go_ret
   obtain rfl := HG.out.2
   exact ⟨by simp [hq], HB.out⟩
theorem putNode_inv {S : St} (hi : Inv S) (hh : Nat) (n : Nd) : Inv (putNode S hh n).2 := by
 unfold putNode
 split
 · exact (putWords_inv hh _ S 0 hi).1
 · exact hi
theorem withM_some {S S' : St} {n : Nd} {h l r : Nat} (hw : withM S n h l r = some S') : ∃ a b x y, heightM S l = some a ∧ heightM S r = some b ∧ sizeM S l = some x ∧ sizeM S r = some y ∧ S' = (putNode S h { n with left := l, right := r, mark := max a b + 1, size := x + y + 1 }).2 := by
 unfold withM at hw
 split at hw
 · rename_i a b x y h1 h2 h3 h4
   exact ⟨a, b, x, y, h1, h2, h3, h4, (Option.some.inj hw).symm⟩
 · cases hw
theorem withM_inv {S S' : St} {n : Nd} {h l r : Nat} (hi : Inv S) (hw : withM S n h l r = some S') : Inv S' := by
 obtain ⟨_, _, _, _, _, _, _, _, rfl⟩ := withM_some hw
 exact putNode_inv hi _ _
theorem avl_with {w : World} {ps : Nat} {S S' : St} {Y : Nat → Prop} (h : StOn w ps S Y) (hi : Inv S) (n : Nd) (hn : NdLt n) (hh l r : Nat) (hl : hh < 18446744073709551616) (hll : l < 18446744073709551616) (hrl : r < 18446744073709551616) (hw : withM S n hh l r = some S') :
 Calls Tryz.prog 247 #[trV n hh, PV ps, .int .u64 l, .int .u64 r] w fun e w' => e = .returned (.int .u64 hh) ∧ StOn w' ps S' Y ∧ Keep Y w w' := by
 obtain ⟨a, b, x, y, h1, h2, h3, h4, rfl⟩ := withM_some hw
 have ha : a < 4611686018427387904 := by have := num_some h1; omega
 have hb : b < 4611686018427387904 := by have := num_some h2; omega
 have hx : x < 4611686018427387904 := by have := num_some h3; omega
 have hy : y < 4611686018427387904 := by have := num_some h4; omega
 obtain ⟨m, hm⟩ : ∃ m, max a b = m := ⟨_, rfl⟩
 have hml : m < 4611686018427387904 := by omega
 have hmi : max (a : Int) (b : Int) = (m : Int) := by omega
 rw [hm]
 obtain ⟨k0, k1, k2, k3, k4, k5⟩ := n
 obtain ⟨n0, n1, n2, n3, n4, n5⟩ := hn
 simp only at n0 n1 n2 n3 n4 n5
 simp only [trV]
 have hpu := fun W Z (hW : StOn W ps S Z) => node_put hW hi hh hl ⟨k0, k1, l, r, m + 1, x + y + 1⟩ ⟨n0, n1, hll, hrl, by simp only; omega, by simp only; omega⟩
 have hnd : ndV ⟨k0, k1, l, r, m + 1, x + y + 1⟩ = .agg #[.int .u64 k0, .int .u64 k1, .int .u64 l, .int .u64 r, .int .u64 ((m : Int) + 1), .int .u64 ((x : Int) + y + 1)] := by simp [ndV]
 rw [hnd] at hpu
 have q0 := heap_alloc_new w (.cells #[.int .u64 k0, .int .u64 k1, .int .u64 l, .int .u64 r, .int .u64 k4, .int .u64 k5, .int .u64 hh] 319)
 have qb : Below w.heap.size w (w.alloc (.cells #[.int .u64 k0, .int .u64 k1, .int .u64 l, .int .u64 r, .int .u64 k4, .int .u64 k5, .int .u64 hh] 319)) := (Below.refl _ w).alloc (Nat.le_refl _) _
 have hH1 := fun W (hW : Below w.heap.size w W) => avl_height (h.below hW) hi l hll h1
 have hH2 := fun W (hW : Below w.heap.size w W) => avl_height (h.below hW) hi r hrl h2
 have hZ1 := fun W (hW : Below w.heap.size w W) => walk_size (h.below hW) hi l hll h3
 have hZ2 := fun W (hW : Below w.heap.size w W) => walk_size (h.below hW) hi r hrl h4
 have HG := kq8 hH1 hH2 hZ1 hZ2 hpu h q0 qb
 clear hH1 hH2 hZ1 hZ2 hpu h q0 qb h1 h2 h3 h4 hw hm hi hnd
 go_enter Tryz.func247, Tryz.ntmps247
 go_wp2_with fail
 refine (HG.out.1 _ HG.out.2.2.2.2.2.2.2).mono ?_
 rintro e w1 ⟨rfl, hb1⟩
 have r1 := (hb1.block w.heap.size (by simp)).trans HG.out.2.2.2.2.2.2.1
 have H1 := kq2 (HG.out.2.2.2.2.2.2.2.trans (hb1.mono (by simp))) r1
 clear hb1 r1
 go_wp2_with fail
 refine (HG.out.2.1 _ H1.out.1).mono ?_
 rintro e w2 ⟨rfl, hb2⟩
 have r2 := (hb2.block w.heap.size (gl H1.out.2)).trans H1.out.2
 obtain ⟨c0, c1, c2, c3, c4, c5, c6⟩ := cells7 r2
 obtain ⟨f0, f1, f2, f3, f4, f5, f6⟩ := frees7 r2
 have H2 := kq2 (H1.out.1.trans (hb2.mono H1.out.1.size)) r2
 clear hb2 r2
 go_wp2_with fail
 have r3 : (w2.setCell ⟨w.heap.size, 4, none⟩ (.int .u64 ((m : Int) + 1))).heap[w.heap.size]? = some (.cells #[.int .u64 k0, .int .u64 k1, .int .u64 l, .int .u64 r, .int .u64 ((m : Int) + 1), .int .u64 k5, .int .u64 hh] 319 (0, 0)) := by rw [heap_setCell H2.out.2]; rfl
 have B3 := H2.out.1.setCell (p := ⟨w.heap.size, 4, none⟩) (Nat.le_refl w.heap.size) (.int .u64 ((m : Int) + 1))
 generalize w2.setCell ⟨w.heap.size, 4, none⟩ (.int .u64 ((m : Int) + 1)) = w3 at *
 refine (HG.out.2.2.1 _ B3).mono ?_
 rintro e w4 ⟨rfl, hb4⟩
 have H4 := kq2 (B3.trans (hb4.mono B3.size)) ((hb4.block w.heap.size (gl r3)).trans r3)
 clear hb4 r3 B3 c0 c1 c2 c3 c4 c5 c6 f0 f1 f2 f3 f4 f5 f6
 go_wp2_with fail
 refine (HG.out.2.2.2.1 _ H4.out.1).mono ?_
 rintro e w5 ⟨rfl, hb5⟩
 have r5 := (hb5.block w.heap.size (gl H4.out.2)).trans H4.out.2
 obtain ⟨c0, c1, c2, c3, c4, c5, c6⟩ := cells7 r5
 obtain ⟨f0, f1, f2, f3, f4, f5, f6⟩ := frees7 r5
 have H5 := kq2 (H4.out.1.trans (hb5.mono H4.out.1.size)) r5
 clear hb5 r5
 go_wp2_with fail
 have r6 : (w5.setCell ⟨w.heap.size, 5, none⟩ (.int .u64 ((x : Int) + y + 1))).heap[w.heap.size]? = some (.cells #[.int .u64 k0, .int .u64 k1, .int .u64 l, .int .u64 r, .int .u64 ((m : Int) + 1), .int .u64 ((x : Int) + y + 1), .int .u64 hh] 319 (0, 0)) := by rw [heap_setCell H5.out.2]; rfl
 have B6 := H5.out.1.setCell (p := ⟨w.heap.size, 5, none⟩) (Nat.le_refl w.heap.size) (.int .u64 ((x : Int) + y + 1))
 have hlt6 : w.heap.size < (w5.setCell ⟨w.heap.size, 5, none⟩ (.int .u64 ((x : Int) + y + 1))).heap.size := (gl r6)
 refine (HG.out.2.2.2.2.1 _ _ (HG.out.2.2.2.2.2.1.wide B6)).mono ?_
 rintro e w7 ⟨rfl, h7, k7⟩
 have r7 := (k7.block w.heap.size (Or.inr ⟨Nat.le_refl _, hlt6⟩)).trans r6
 have c6' : w7.cell? ⟨w.heap.size, 6, none⟩ = some (.int .u64 hh) := by rw [cell_of_block r7]; rfl
 have H7 := kq2 (h7.mono (Z := Y) fun k hk => Or.inl hk) ((Keep.of_below B6 HG.out.2.2.2.2.2.1.yl).trans (k7.mono fun k hk => Or.inl hk))
 clear h7 k7 r7 r6 B6 hlt6 c0 c1 c2 c3 c4 c5 c6 f0 f1 f2 f3 f4 f5 f6
 go_wp2_with fail
 go_ret
 exact ⟨rfl, H7.out⟩
end Go.Proofs.YtcibkdbpicledaaGreatDoor
namespace Go.Proofs.YtcibkdbpicledaaGreatDoor.Qu
open Go Go.RowKit
section
variable {P : Program} {l : List Oper} {md : Region.Mode} {S : World → Prop} {Q : Exit → Act → World → Prop}
def wpHeld (P : Program) (l : List Oper) (S : World → Prop) (Q : Act → Prop) : List Nat → Act → Prop
 | [], a => Q a
 | i :: is, a => ∃ o, l[i]? = some o ∧ ∃ v, YieldsIf P l.toArray S o v a ∧ wpHeld P l S Q is (a.put o.dst v)
def wpSeqH (P : Program) (l : List Oper) (Q : Exit → Act → World → Prop) (S : World → Prop) : List Nat → Act → World → Prop
 | [], a, w => Q .normal a w
 | i :: is, a, w => ∃ o, l[i]? = some o ∧ Region.wanted o (yielded l.toArray a.tmps) = true ∧ o.wp P a w (fun a' w' => S w' ∧ wpSeqH P l Q S is a' w') Q
def seqB (md : Region.Mode) (ops : Array Oper) : List Nat → Array Bool → Bool
 | [], listed => (Region.ready md ops listed).isEmpty
 | i :: is, listed => decide (Region.ready md ops listed = [i]) && seqB md ops is (listed.setIfInBounds i true)
def headB (md : Region.Mode) (ops : Array Oper) (js : List Nat) : List Nat → Array Bool → Bool
 | [], listed => seqB md ops js listed
 | i :: is, listed => (Region.ready md ops listed).contains i && Region.free md ops listed i && headB md ops js is (listed.setIfInBounds i true)
theorem wpAnyH_of_seq : ∀ (js : List Nat) (listed : Array Bool) (a : Act) (w : World),
 seqB md l.toArray js listed = true → S w → wpSeqH P l Q S js a w → wpAnyH P md l.toArray Q S js.length listed a w
 | [], _, _, _, hB, _, h => ⟨by simpa [seqB] using hB, h⟩
 | j :: js, listed, a, w, hB, hS, h => by
  simp only [seqB, Bool.and_eq_true, decide_eq_true_eq] at hB
  refine ⟨fun h1 => (by rw [hB.1] at h1; cases h1), fun i hi => ?_⟩
  rw [hB.1] at hi
  have hik : i = j := by simpa using hi
  subst hik
  have hrec := fun a' w' (hs : S w') (hq : wpSeqH P l Q S js a' w') => wpAnyH_of_seq js (listed.setIfInBounds i true) a' w' hB.2 hs hq
  obtain ⟨o, h0, hw, hh⟩ := h
  have h0' : l.toArray[i]? = some o := by simpa using h0
  unfold wpOp
  simp only [h0', hw, if_true]
  exact .inl (Oper.wp_mono (fun a' w' h' => ⟨h'.1, hrec a' w' h'.1 h'.2⟩) hh)
theorem wpAnyH_lex {js : List Nat} {w : World} {Lq : Act → Prop} (hsel : Region.noSelect l.toArray = true) (hS : S w) (hQ : ∀ d v c a w, Q (.panic c) (Act.put a d v) w → Q (.panic c) a w)
 (hL : ∀ listed a, seqB md l.toArray js listed = true → Lq a → wpAnyH P md l.toArray Q S js.length listed a w) :
 ∀ (is : List Nat) (listed : Array Bool) (a : Act),
 headB md l.toArray js is listed = true → wpHeld P l S Lq is a → wpAnyH P md l.toArray Q S (is.length + js.length) listed a w
 | [], listed, a, hB, h => by simpa using hL listed a (by simpa [headB] using hB) h
 | i :: is, listed, a, hB, h => by
  simp only [headB, Bool.and_eq_true] at hB
  obtain ⟨⟨hr, hf⟩, hB'⟩ := hB
  obtain ⟨o, h0, v, hy, hK⟩ := h
  have h0' : l.toArray[i]? = some o := by simpa using h0
  rw [List.length_cons, show is.length + 1 + js.length = (is.length + js.length) + 1 by omega]
  exact wpAnyH_take h0' hsel hf hr (fun c a w => hQ _ _ c a w) hy hS (wpAnyH_lex hsel hS hQ hL is _ _ hB' hK)
end
def lexHeldB (md : Region.Mode) (ops : Array Oper) (is js : List Nat) : Bool :=
 Region.noSelect ops && decide (is.length + js.length = ops.size) && headB md ops js is (Array.replicate ops.size false)
end Qu
open Qu
abbrev InK (I : World → Prop) : World → Prop := fun w' => ∃ x : Keeps I, w' = x.to
theorem wp_region_held_tail {P : Program} {id : Nat} {Q : Exit → Act → World → Prop} {a : Act} {w : World} {l : List Oper} (I : World → Prop) (is js : List Nat) (hm : P.follows .mixedOrders = true) (hB : lexHeldB .any l.toArray is js = true)
 (hI : I w.drew)
 (h : wpHeld P l (InK I) (fun a' => wpSeqH P l (NoPanic Q) (InK I) js a' w.drew) is a) : (Code.region id l.toArray true).wp P Q a w := by
 simp only [lexHeldB, Bool.and_eq_true, decide_eq_true_eq] at hB
 obtain ⟨⟨hsel, hn⟩, hlex⟩ := hB
 have hS : InK I w.drew := ⟨⟨_, hI⟩, rfl⟩
 refine wp_region_noPanic (wp_region_held_drew (S := InK I) hm hS (fun _ => ?_))
 have := wpAnyH_lex (md := .any) (js := js) (Q := NoPanic Q) hsel hS (fun _ _ _ _ _ h => (h : False).elim) (fun listed a' hq hl =>
  wpAnyH_of_seq (md := .any) (Q := NoPanic Q) (S := InK I) js listed a' w.drew hq hS hl) is _ a hlex h
 rw [hn] at this
 exact this
theorem wpHeld_cons {P : Program} {l : List Oper} {S : World → Prop} {Q : Act → Prop} {i : Nat} {is : List Nat} {a : Act} (o : Oper) (ho : l[i]? = some o) (v : Value) (hw : Region.wanted o (yielded l.toArray a.tmps) = true) (hr : ∀ w, S w → (execOp a.eval o).run P w = .ok (.value v) w)
 (h : wpHeld P l S Q is (a.put o.dst v)) : wpHeld P l S Q (i :: is) a := ⟨o, ho, v, Or.inl ⟨hw, hr⟩, h⟩
theorem wpHeld_nil {P : Program} {l : List Oper} {S : World → Prop} {Q : Act → Prop} {a : Act} (h : Q a) : wpHeld P l S Q [] a := h
theorem wpSeqH_cons {P : Program} {l : List Oper} {Q : Exit → Act → World → Prop} {I : World → Prop} {i : Nat} {is : List Nat} {a : Act} {w : World} (o : Oper) (ho : l[i]? = some o) (hw : Region.wanted o (yielded l.toArray a.tmps) = true)
 (h : ∀ K' : Act → World → Prop, Shut (∀ a w, I w → wpSeqH P l Q (InK I) is a w → K' a w) → Oper.wp P o a w K' Q) : wpSeqH P l Q (InK I) (i :: is) a w :=
 ⟨o, ho, hw, h _ (fun _ _ hI hs => ⟨⟨⟨_, hI⟩, rfl⟩, hs⟩)⟩
theorem wpSeqH_nil {P : Program} {l : List Oper} {Q : Exit → Act → World → Prop} {S : World → Prop} {a : Act} {w : World} (h : Q .normal a w) : wpSeqH P l (NoPanic Q) S [] a w := h
