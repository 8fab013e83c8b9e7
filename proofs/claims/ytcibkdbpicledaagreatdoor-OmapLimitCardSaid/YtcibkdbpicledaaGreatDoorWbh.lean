import Derived.Test.YtcibkdbpicledaaGreatDoorWbg
set_option maxRecDepth 100000
set_option maxHeartbeats 6400000
namespace Go.Proofs.YtcibkdbpicledaaGreatDoor
open Go.RowKit Go.BigFrame Go.Maps Go.WideMaps Lf Tr
theorem StOn.write3 {w w' : World} {ps : Nat} {S : St} {Y : Nat → Prop} {b : Nat} {cs : Array Value} {t : TypeId} {fr : Nat × Nat} (h : StOn w ps S Y) (hy : Y b) (hb : w.heap[b]? = some (.cells cs t fr)) (ht : t ≠ 130 ∧ t ≠ 177) (hne : b ≠ tabB)
 (hs : w.heap.size ≤ w'.heap.size) (hw : ∀ k, k < w.heap.size → k ≠ b → w'.heap[k]? = w.heap[k]?) : StOn w' ps S Y := by
 obtain ⟨pa, pm, ph, pt, v, h⟩ := h
 refine ⟨pa, pm, ph, pt, v, h.of_keep hs fun k hk hc => hw k hk ?_⟩
 rintro rfl
 rcases hc with hc | rfl | rfl | rfl
 · exact hc hy
 · have := h.hd
   rw [hb] at this
   injection this with this
   injection this with _ this
   exact ht.1 this
 · have := h.heap.hp
   rw [hb] at this
   injection this with this
   injection this with _ this
   exact ht.2 this
 · exact hne rfl
theorem MpAt.wide {P : List (List UInt8 × List UInt8) → Prop} {K : TreeK} (ok : TreeOkP K P) {w W W' : World} {ps pm px limit root : Nat} {S : St} {Y : Nat → Prop} {L : List (List UInt8 × List UInt8)} (h : MpAt K w W ps pm px limit root S Y L) (hb : Below W.heap.size W W') :
 MpAt K w W' ps pm px limit root S (fun k => Y k ∨ (W.heap.size ≤ k ∧ k < W'.heap.size)) L :=
 ⟨h.st.wide hb, h.hold, ok.onBelow h.on hb, h.map.below hb, h.bl.trans (hb.mono h.bl.size), fun k hk => Or.inl (h.own k hk), Or.inl h.yx, Or.inl h.ym, h.lx, h.lm, h.ne⟩
theorem MpAt.write {P : List (List UInt8 × List UInt8) → Prop} {K : TreeK} (ok : TreeOkP K P) {w W W' : World} {ps pm px limit root : Nat} {S : St} {Y : Nat → Prop} {L : List (List UInt8 × List UInt8)} (h : MpAt K w W ps pm px limit root S Y L) (ht : tabB < w.heap.size) {b : Nat} {cs : Array Value} {t : TypeId} {fr : Nat × Nat} (hy : Y b) (hb : W.heap[b]? = some (.cells cs t fr)) (hty : t ≠ 130 ∧ t ≠ 177) (hbw : w.heap.size ≤ b) (hpx : b ≠ px) (hpm : b ≠ pm)
 (hs : W'.heap.size = W.heap.size) (ho : W'.os = W.os ∧ W'.tape = W.tape ∧ W'.output = W.output) (hw : ∀ k, k ≠ b → W'.heap[k]? = W.heap[k]?) : MpAt K w W' ps pm px limit root S Y L :=
 ⟨h.st.write3 hy hb hty (by omega) (by omega) fun k _ hk => hw k hk, h.hold, ok.onKeep (Y := fun k => k ≠ b) h.on ⟨ho.1, ho.2.1, ho.2.2, by omega, fun k hk => hw k hk⟩ (Ne.symm hpx), (hw pm (Ne.symm hpm)).trans h.map, h.bl.trans ⟨ho.1, ho.2.1, ho.2.2, by have := h.bl.size; omega, fun k hk => hw k (by omega)⟩, h.own, h.yx, h.ym, h.lx, h.lm, h.ne⟩
def filled (N i : Nat) (c : UInt8) : List UInt8 := List.replicate i c ++ List.replicate (N - i) 0
def u8s (l : List UInt8) : Array Value := (l.map fun x => Value.int .u8 (x.toNat : Nat)).toArray
theorem filled_step {N i : Nat} {c : UInt8} (h : i < N) : (u8s (filled N i c)).setIfInBounds i (.int .u8 (c.toNat : Nat)) = u8s (filled N (i + 1) c) := by
 unfold u8s filled
 rw [List.setIfInBounds_toArray, ← List.map_set]
 congr 2
 rw [List.set_append_right _ _ (by simp), List.length_replicate, Nat.sub_self, show N - i = (N - (i + 1)) + 1 by omega, List.replicate_succ, List.set_cons_zero, show List.replicate (i + 1) c = List.replicate i c ++ [c] from List.replicate_succ', List.append_assoc]
 rfl
theorem filled_len (N i : Nat) (c : UInt8) (h : i ≤ N) : (filled N i c).length = N := by
 unfold filled
 simp
 omega
theorem made_u8 (n : Nat) : madeCells #[.int .u8 0] n = u8s (List.replicate n 0) := by
 unfold u8s madeCells
 apply Array.ext'
 simp
 exact List.ext_getElem (by simp) fun i h1 h2 => by simp [Nat.mod_one]
theorem u8_conv {W : World} {b cap n : Nat} {l : List UInt8} {fr : Nat × Nat} (h : W.heap[b]? = some (.cells (u8s l) 5 fr)) (hn : n ≤ l.length) :
 (convert 49 9 (.slice (some ⟨b, 0, none⟩) n cap)).run Tryz.prog W = .ok (SV (l.take n)) W := by
 have hq : ((l.take n).length : Nat) = n := by rw [List.length_take]; omega
 have := run_convert_bytes_back (P := Tryz.prog) W _ _ 5 ⟨b, 0, none⟩ cap (l.take n) Tryz.underlying49 Tryz.underlying5 Tryz.underlying9 (fun j hj => by
  have hadd : (⟨b, 0, none⟩ : Addr).add j = ⟨b, j, none⟩ := by unfold Addr.add; split <;> simp_all
  rw [hadd, cell_of_block h]
  unfold u8s
  rw [List.getElem?_toArray, List.getElem?_map, List.getElem?_eq_getElem (by omega)]
  simp)
 rw [hq] at this
 exact this
theorem omapLimit_walk (kind t limit : Int) (c : UInt8) {w : World} (ht : Tab64 w) :
 Calls Tryz.prog 5 #[.int .i64 kind, .int .i64 t, .int .i64 limit, .int .u8 (c.toNat : Nat)] w fun e w' => e = .returned (.bool true) ∧ Below w.heap.size w w' := by
 have haw := fun W (hW : Below w.heap.size w W) => awake20g (ht.of_block (hW.block _ ht.lt))
 have hfi := fine_any kind t w
 have htl := ht.lt
 have HG := kq4 haw hfi ht htl
 clear haw hfi ht htl
 obtain ⟨fb, hfb⟩ : ∃ fb, fineB kind t = fb := ⟨_, rfl⟩
 rw [hfb] at HG
 cases fb with
 | false =>
  clear hfb
  go_enter Tryz.func5, Tryz.ntmps5
  go_wp2_with fail
  refine HG.out.2.1.mono ?_
  rintro e w1 ⟨rfl, rfl⟩
  go_wp2_with fail
  refine (HG.out.1 _ (Below.refl _ _)).mono ?_
  rintro e w1 ⟨rfl, hb1⟩
  have H1 := Lib.hid hb1
  clear hb1
  go_wp2_with fail
  go_ret
  exact ⟨rfl, H1.out⟩
 | true =>
  by_cases h0 : limit < 0
  · clear hfb
    have h0' : (limit < 0) = True := eq_true h0
    clear h0
    go_enter Tryz.func5, Tryz.ntmps5
    go_wp2_with fail
    refine HG.out.2.1.mono ?_
    rintro e w1 ⟨rfl, rfl⟩
    go_wp2_with fail
    refine (HG.out.1 _ (Below.refl _ _)).mono ?_
    rintro e w1 ⟨rfl, hb1⟩
    have H1 := Lib.hid hb1
    clear hb1
    go_wp2_with fail
    go_ret
    exact ⟨rfl, H1.out⟩
  by_cases h1 : 1000 < limit
  · clear hfb
    have h0' : (limit < 0) = False := eq_false h0
    have h1' : (1000 < limit) = True := eq_true h1
    clear h0 h1
    go_enter Tryz.func5, Tryz.ntmps5
    go_wp2_with fail
    refine HG.out.2.1.mono ?_
    rintro e w1 ⟨rfl, rfl⟩
    go_wp2_with fail
    refine (HG.out.1 _ (Below.refl _ _)).mono ?_
    rintro e w1 ⟨rfl, hb1⟩
    have H1 := Lib.hid hb1
    clear hb1
    go_wp2_with fail
    go_ret
    exact ⟨rfl, H1.out⟩
  obtain ⟨n, rfl⟩ : ∃ n : Nat, limit = n := ⟨limit.toNat, by omega⟩
  have hn : n ≤ 1000 := by omega
  have hk3 : kind = 1 ∨ kind = 2 ∨ kind = 3 ∧ 2 ≤ t ∧ t ≤ 16 := of_decide_eq_true hfb
  obtain ⟨K, hK⟩ := kind_any0 kind t hk3
  obtain ⟨K2, hK2⟩ := kind_any0 kind 2 (by omega)
  have hmd := made20 hK2 HG.out.2.2.1 (PRow.nil w) (by simp) (fun p hp => by cases hp) (fun i hi => absurd hi (by simp))
  have HM := Lib.hid hmd
  have HK := kq2 hK hK.ok
  have HK2 := Lib.hid hK2.ok
  have h0' : ((n : Int) < 0) = False := eq_false h0
  have h1' : (1000 < (n : Int)) = False := eq_false h1
  have hwn : IntKind.i64.wrap ((n : Int) + 1) = (n : Int) + 1 := IntWalk.i64_in _ (by omega)
  have hmk : ∀ W, (Instr.makeSlice 49 (.int .i64 ((n : Int) + 1)) (.int .i64 ((n : Int) + 1))).run Tryz.prog W = .ok (.slice (some ⟨W.heap.size, 0, none⟩) (n + 1) (n + 1)) (W.alloc (.cells (u8s (List.replicate (n + 1) 0)) 5)) := fun W => by
   obtain ⟨i, hi, hz⟩ := Option.map_eq_some_iff.1 infoU8
   simp only [Prod.mk.injEq] at hz
   have := run_make (P := Tryz.prog) (w := W) 49 5 i (.int .u8 0) Tryz.underlying49 hi hz.1 .i64 .i64 ((n : Int) + 1) ((n : Int) + 1) (by omega) (by omega) (by rw [hz.2.2]; omega) (by omega)
   rw [show ((n : Int) + 1).toNat = n + 1 by omega, hz.2.1, Nat.mul_one] at this
   rw [this]
   rw [show (Value.int .u8 0).cells = #[.int .u8 0] from rfl, made_u8]
  clear hfb h0 h1 hk3 hmd hK hK2
  go_enter Tryz.func5, Tryz.ntmps5
  go_wp2_with fail
  refine HG.out.2.1.mono ?_
  rintro e w1 ⟨rfl, rfl⟩
  go_wp2_with fail
  refine HM.out.mono ?_
  rintro e w2 ⟨ps, pm0, px0, root0, S0, Y0, rfl, hm0, hs0⟩
  obtain ⟨o0, R0, hh0⟩ := hm0.hold
  have hmn := map_newK HK.out.1 hm0.st (HK2.out.fit hh0) hm0.bl hm0.own n hn
  have H2 := kq2 hmn hs0
  clear hmn hm0 hs0 hh0
  go_wp2_with fail
  refine H2.out.1.mono ?_
  rintro e w3 ⟨pm, px, Y, rfl, hm, _, hb3⟩
  have A3 := (Below.refl w3.heap.size w3).alloc (Nat.le_refl _) (.cells (u8s (List.replicate (n + 1) 0)) 5)
  have q3 := heap_alloc_new w3 (.cells (u8s (List.replicate (n + 1) 0)) 5)
  have hmW := hm.wide HK.out.2 A3
  have hyb : ∃ Z : Nat → Prop, MpAt K w (w3.alloc (.cells (u8s (List.replicate (n + 1) 0)) 5)) ps pm px n 0 S0 Z [] ∧ Z w3.heap.size := ⟨_, hmW, Or.inr ⟨Nat.le_refl _, by simp⟩⟩
  clear hmW
  obtain ⟨Z, hmW, hyb⟩ := hyb
  have hs0 : Space S0 4000 1800 := H2.out.2
  have hbx : w3.heap.size ≠ px ∧ w3.heap.size ≠ pm := ⟨fun q => by have := HK.out.2.onLt hm.on; omega, fun q => by have := (gl hm.map); omega⟩
  have hwb := hm.bl.size
  clear hm hb3
  go_wp2_with fail
  generalize w3.alloc (.cells (u8s (List.replicate (n + 1) 0)) 5) = W0 at hmW q3 ⊢
  generalize w3.heap.size = bb at hmW q3 hbx hwb hyb ⊢
  have H3 := kq6 hmW q3 hbx hwb hyb hs0
  clear hmW q3 hbx hwb hyb A3 hmk H2 HM HK2 hs0
  go_loopw [15] (fun s15 wr => ∃ i : Nat, s15 = .int .i64 i ∧ i ≤ n + 1 ∧ Hid (MpAt K w wr ps pm px n 0 S0 Z [] ∧ wr.heap[bb]? = some (.cells (u8s (filled (n + 1) i c)) 5 (0, 0)))) (fun s15 _ => n + 1 - (intOf s15).toNat)
  case atStart => exact ⟨0, rfl, by omega, H3.out.1, H3.out.2.1⟩
  case round =>
   obtain ⟨i, rfl, hin, I0⟩ := hrel
   obtain ⟨hM, hq⟩ := I0.out
   by_cases hi : i < n + 1
   · have hlt : (i : Int) < (n : Int) + 1 := by omega
     have hlt2 : (i : Int) < ((n + 1 : Nat) : Int) := by omega
     have hfl := filled_len (n + 1) i c (by omega)
     obtain ⟨vi, hvi⟩ : ∃ vi, (u8s (filled (n + 1) i c))[i]? = some vi := by
      unfold u8s
      rw [List.getElem?_toArray, List.getElem?_map, List.getElem?_eq_getElem (by omega)]
      exact ⟨_, rfl⟩
     have c0 : wr.cell? ⟨bb, i, none⟩ = some vi := by rw [cell_of_block hq]; exact hvi
     have f0 : wr.frozen? ⟨bb, i, none⟩ = false := frozen_of_block hq
     have hq2 := heap_setCell (i := i) (v := .int .u8 (c.toNat : Nat)) hq
     rw [filled_step hi] at hq2
     have hM2 := hM.write (W' := wr.setCell ⟨bb, i, none⟩ (.int .u8 (c.toNat : Nat))) HK.out.2 HG.out.2.2.2 H3.out.2.2.2.2.1 hq ⟨by decide, by decide⟩ H3.out.2.2.2.1 H3.out.2.2.1.1 H3.out.2.2.1.2 (by simp) ⟨rfl, rfl, rfl⟩ fun k hk => heap_setCell_ne hk
     have HN := kq2 hM2 hq2
     clear hM hq hfl hvi hq2 hM2
     go_wp2_with fail
     go_roundw
     case rel => exact ⟨i + 1, by simp, by omega, HN.out⟩
     case measure => simp [intOf]; omega
   · obtain rfl : i = n + 1 := by omega
     have hlt : ¬ ((n : Int) + 1 < (n : Int) + 1) := by omega
     have hfl : filled (n + 1) (n + 1) c = List.replicate (n + 1) c := by unfold filled; simp
     rw [hfl] at hq
     have hcv : ∀ (W : World) (k : Nat), W.heap[bb]? = some (.cells (u8s (List.replicate (n + 1) c)) 5 (0, 0)) → k ≤ n + 1 → (convert 49 9 (.slice (some ⟨bb, 0, none⟩) k (n + 1))).run Tryz.prog W = .ok (SV (List.replicate k c)) W := fun W k h hk => by
      have := u8_conv (W := W) (n := k) (cap := n + 1) h (by simp; exact hk)
      rwa [List.take_replicate, Nat.min_eq_left hk] at this
     obtain ⟨I, hIi, hIo⟩ : ∃ I : World → Prop, (∀ w', I w' → w'.heap[bb]? = some (.cells (u8s (List.replicate (n + 1) c)) 5 (0, 0))) ∧ (∀ w', w'.heap[bb]? = some (.cells (u8s (List.replicate (n + 1) c)) 5 (0, 0)) → I w') := ⟨_, fun _ h => h, fun _ h => h⟩
     have o1 := fun x : Keeps I => hcv x.to n (hIi _ x.ok) (by omega)
     have o2 := fun x : Keeps I => hcv x.to (n + 1) (hIi _ x.ok) (by omega)
     have hI0 : I wr.drew := hIo _ hq
     obtain ⟨fits, hfi⟩ : ∃ fits, List.replicate n c = fits := ⟨_, rfl⟩
     obtain ⟨over, hov⟩ : ∃ over, List.replicate (n + 1) c = over := ⟨_, rfl⟩
     have lf : fits.length = n := by rw [← hfi, List.length_replicate]
     have lo : over.length = n + 1 := by rw [← hov, List.length_replicate]
     rw [hfi] at o1
     rw [hov] at o2
     have hne : Bt.getL [(fits, fits)] over = none := by
      unfold Bt.getL
      rw [List.find?_cons_of_neg (by simp; intro q; rw [q] at lf; omega)]
      rfl
     have hse : Bt.getL [(fits, fits)] fits = some fits := by
      unfold Bt.getL
      rw [List.find?_cons_of_pos (by simp)]
      rfl
     have hp := (hM.below HK.out.2 (Below.refl _ _).drew).put (p := 0) (q := 0) HK.out.2 (H3.out.2.2.2.2.2.mono (by omega) (by omega)) fits fits (by omega) (by omega) hn (by simp) rfl
     simp only [show Bt.getL [] fits = none from rfl, Option.getD_none, Option.isSome_none] at hp
     have HP := Lib.hid hp
     have HLn := kq4 lf lo hne hse
     have hle : (n : Int) ≤ (n : Int) + 1 := by omega
     clear hM hq hfl hcv hIi hIo hfi hov lf lo hne hse hp
     go_wp2_with fail
     refine wp_region_plan I (.take 0 (.take 1 (.take 2 (.take 3 (.take 4 (.take 5 (.go 6 (.go 7 .nil)))))))) (by kernel_rfl) (by kernel_rfl) hI0 ?_
     iterate 6
      refine' plan_take _ (by rfl) _ (by rfl) ?_ ?_
      rotate_left
      · rintro _ ⟨x, rfl⟩
        have hxo1 := o1 x
        have hxo2 := o2 x
        go_simp
        try with_reducible rfl
      try simp only [pu]
     refine pD fun K hK => ?_
     go_simp
     try go_simp
     refine hK.out _ _ (hI0) ?_
     clear hK K
     try simp only [pu]
     refine pD fun K hK => ?_
     go_simp
     try go_simp
     refine hK.out _ _ (hI0) ?_
     clear hK K
     try simp only [pu]
     refine plan_nil ?_
     clear o1 o2
     go_wp2_with fail
     refine HP.out.mono ?_
     rintro e w5 ⟨rfl, x5, S5, hm5, _⟩
     have hm5 : MpAt K w w5 ps pm px n x5 S5 Z [(fits, fits)] := hm5
     have H5 := Lib.hid hm5
     clear hm5
     go_wp2_with fail
     refine (mapH_put_long H5.out.map over fits (Or.inl (by have := HLn.out.2.1; omega))).mono ?_
     rintro e wx ⟨rfl, rfl⟩
     go_wp2_with fail
     refine (mapH_put_long H5.out.map fits over (Or.inr (by have := HLn.out.2.1; omega))).mono ?_
     rintro e wx ⟨rfl, rfl⟩
     go_wp2_with fail
     refine (mapH_absent_long H5.out.map over fits (Or.inl (by have := HLn.out.2.1; omega))).mono ?_
     rintro e wx ⟨rfl, rfl⟩
     go_wp2_with fail
     refine (H5.out.absent_there HK.out.2 (by simp) fits fits (by have := HLn.out.1; omega) (by have := HLn.out.1; omega) HLn.out.2.2.2).mono ?_
     rintro e w6 ⟨rfl, hb6⟩
     have H6 := Lib.hid (H5.out.below HK.out.2 hb6)
     clear hb6
     have hg1 := H6.out.get HK.out.2 (by simp) fits
     rw [HLn.out.2.2.2] at hg1
     simp only [Option.getD_some, Option.isSome_some, if_true] at hg1
     have HG1 := Lib.hid hg1
     clear hg1
     go_wp2_with fail
     refine HG1.out.mono ?_
     rintro e w7 ⟨rfl, hb7⟩
     have H7 := Lib.hid (H6.out.below HK.out.2 hb7)
     clear hb7
     have hg2 := H7.out.get HK.out.2 (by simp) over
     rw [HLn.out.2.2.1] at hg2
     simp only [Option.getD_none, Option.isSome_none, Bool.false_eq_true, if_false] at hg2
     have HG2 := Lib.hid hg2
     clear hg2
     go_wp2_with fail
     refine HG2.out.mono ?_
     rintro e w8 ⟨rfl, hb8⟩
     have H8 := Lib.hid (H7.out.below HK.out.2 hb8)
     clear hb8
     go_wp2_with fail
     refine (H8.out.len HK.out.2 (by simp)).mono ?_
     rintro e w9 ⟨rfl, hb9⟩
     have H9 := Lib.hid (H8.out.below HK.out.2 hb9)
     clear hb9
     go_wp2_with fail
     refine (map_limit H9.out.map).mono ?_
     rintro e wx ⟨rfl, rfl⟩
     go_wp2_with fail
     refine (HG.out.1 _ H9.out.bl).mono ?_
     rintro e w10 ⟨rfl, hb10⟩
     have H10 := Lib.hid (H9.out.bl.trans (hb10.mono H9.out.bl.size))
     clear hb10
     go_wp2_with fail
     go_ret
     exact ⟨rfl, H10.out⟩
