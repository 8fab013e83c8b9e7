import Derived.Test.YtcibkdbpicledaaGreatDoorWbd
set_option maxRecDepth 100000
set_option maxHeartbeats 6400000
namespace Go.Proofs.YtcibkdbpicledaaGreatDoor
open Go.RowKit Go.BigFrame Go.Maps Go.WideMaps Lf Tr
theorem bt_most {w : World} {ps : Nat} {S : St} {Y : Nat → Prop} (h : StOn w ps S Y) {t : Nat} (t1 : 2 ≤ t) (t2 : t ≤ 16) :
 Calls Tryz.prog 165 #[trB ps t] w fun e w' => (∃ z : Nat, e = .returned (.int .i64 z) ∧ 1 ≤ z) ∧ Below w.heap.size w w' := by
 have B0 := (Below.refl w.heap.size w).alloc (Nat.le_refl _) (.cells #[PV ps, .int .i64 t] 254)
 have q0 := heap_alloc_new w (.cells #[PV ps, .int .i64 t] 254)
 have hwd := fun W (hW : Below w.heap.size w W) => st_words (h.below hW)
 have hbw := fun W => bnode_words t t1 t2 W
 have hwl := words_le h
 obtain ⟨wd, hwe⟩ : ∃ wd, S.words = wd := ⟨_, rfl⟩
 rw [hwe] at hwl hwd
 have hq : ((wd : Int)).tdiv (6 * (t : Int)) = ((wd / (6 * t) : Nat) : Int) := by
  rw [show (6 * (t : Int)) = ((6 * t : Nat) : Int) by omega]
  exact (Int.ofNat_tdiv wd (6 * t)).symm
 have hql : wd / (6 * t) ≤ wd := Nat.div_le_self _ _
 obtain ⟨qq, hqq⟩ : ∃ qq, wd / (6 * t) = qq := ⟨_, rfl⟩
 rw [hqq] at hq hql
 have h6 : ((6 * (t : Int)) == 0) = false := by simp; omega
 have h6n : (6 * (t : Int)) ≠ 0 := by omega
 have hw1 : IntKind.i64.wrap ((qq : Int)) = (qq : Int) := IntWalk.i64_in _ (by omega)
 have hw2 : IntKind.i64.wrap ((qq : Int) + 1) = (qq : Int) + 1 := IntWalk.i64_in _ (by omega)
 have HG := kq4 hwd hbw B0 q0
 obtain ⟨W0, hW0⟩ : ∃ W0, w.alloc (.cells #[PV ps, .int .i64 t] 254) = W0 := ⟨_, rfl⟩
 rw [hW0] at HG
 obtain ⟨I, hIi, hIo⟩ : ∃ I : World → Prop, (∀ w', I w' → w'.heap[w.heap.size]? = some (.cells #[PV ps, .int .i64 t] 254)) ∧ (∀ w', w'.heap[w.heap.size]? = some (.cells #[PV ps, .int .i64 t] 254) → I w') := ⟨fun w' => w'.heap[w.heap.size]? = some (.cells #[PV ps, .int .i64 t] 254), fun _ h => h, fun _ h => h⟩
 have hz0 := fun x : Keeps I => hIi _ x.ok
 obtain ⟨m0, m1⟩ := cellsX2 hz0
 have hI0 : I W0.drew := hIo _ HG.out.2.2.2
 have HI := Lib.hid hIo
 clear hIi hIo hz0 hwd hbw B0 q0 h hwe hqq
 unfold trB
 go_enter Tryz.func165, Tryz.ntmps165
 go_wp2_with fail
 refine wp_region_plan I (.take 0 (.take 1 (.take 3 (.take 4 (.go 2 (.go 5 (.take 6 (.take 7 (.go 8 .nil))))))))) (by kernel_rfl) (by kernel_rfl) hI0 ?_
 iterate 4
  refine' plan_take _ (by rfl) _ (by rfl) ?_ ?_
  rotate_left
  · rintro _ ⟨x, rfl⟩
    have hxm0 := m0 x
    have hxm1 := m1 x
    go_simp
    try with_reducible rfl
  try simp only [pu]
 refine pD fun K hK => ?_
 go_simp
 refine (HG.out.1 _ (HG.out.2.2.1.drew)).mono ?_
 rintro e w1 ⟨rfl, hb1⟩
 have H1 := kq2 (HG.out.2.2.1.drew.trans (hb1.mono HG.out.2.2.1.drew.size)) (HI.out _ ((hb1.block w.heap.size (gl HG.out.2.2.2)).trans HG.out.2.2.2))
 clear hb1
 try go_simp
 refine hK.out _ _ (H1.out.2) ?_
 clear hK K
 try simp only [pu]
 refine pD fun K hK => ?_
 go_simp
 refine (HG.out.2.1 w1).mono ?_
 rintro e wx ⟨rfl, rfl⟩
 try go_simp
 refine hK.out _ _ (H1.out.2) ?_
 clear hK K
 try simp only [pu]
 iterate 2
  refine' plan_take _ (by rfl) _ (by rfl) ?_ ?_
  rotate_left
  · rintro _ ⟨x, rfl⟩
    go_simp
    try with_reducible rfl
  try simp only [pu]
 refine pD fun K hK => ?_
 go_simp
 try go_simp
 refine hK.out _ _ (H1.out.2) ?_
 clear hK K
 try simp only [pu]
 refine plan_nil ?_
 go_wp2_with fail
 go_ret
 exact ⟨⟨qq + 1, by first | rfl | simp, by omega⟩, H1.out.1⟩
theorem bt_list0 {w : World} {ps : Nat} {S : St} {o : Nat → Nat} {Y : Nat → Prop} (h : StOn w ps S Y) (hf : Fit S o) {t : Nat} (t1 : 2 ≤ t) (t2 : t ≤ 16) (bl : Nat) :
 Calls Tryz.prog 166 #[trB ps t, .slice none 0 0, .int .u64 0, .pointer (some ⟨bl, 0, none⟩), .int .i64 0] w fun e w' => e = .returned (.slice none 0 0) ∧ Below w.heap.size w w' := by
 have B0 := (Below.refl w.heap.size w).alloc (Nat.le_refl _) (.cells #[PV ps, .int .i64 t] 254)
 have hg := bt_get0 (h.below B0) hf.inv t1 t2 0 (by omega) (look_none (reco_zero hf))
 unfold trB bnV at hg
 have HG := kq2 hg B0
 clear hg B0 h hf
 unfold trB
 go_enter Tryz.func166, Tryz.ntmps166
 go_wp2_with fail
 refine HG.out.1.mono ?_
 rintro e w1 ⟨rfl, hb1⟩
 have B1 := HG.out.2.trans (hb1.mono HG.out.2.size)
 have H1 := Lib.hid (B1.alloc B1.size (.cells #[.slice none 0 0, .slice none 0 0, .slice none 0 0, .int .u64 0] 286))
 clear hb1 B1
 go_wp2_with fail
 go_ret
 exact ⟨rfl, H1.out⟩
theorem btree_list0 {w : World} {ps : Nat} {S : St} {o : Nat → Nat} {Y : Nat → Prop} (h : StOn w ps S Y) (hf : Fit S o) {t : Nat} (t1 : 2 ≤ t) (t2 : t ≤ 16) :
 Calls Tryz.prog 138 #[PV ps, .int .i64 t, .int .u64 0] w fun e w' => e = .returned (.slice none 0 0) ∧ Below w.heap.size w w' := by
 have hka := bt_asked h hf.inv t1 t2
 have B0 := (Below.refl w.heap.size w).alloc (Nat.le_refl _) (.cells #[PV ps, .int .i64 t] 254)
 have q0 := heap_alloc_new w (.cells #[PV ps, .int .i64 t] 254)
 have hmo := bt_most (h.below B0) t1 t2
 have hli := fun W (hW : Below w.heap.size w W) bl => bt_list0 (h.below hW) hf t1 t2 bl
 unfold trB at hmo hli
 obtain ⟨W0, hW0⟩ : ∃ W0, w.alloc (.cells #[PV ps, .int .i64 t] 254) = W0 := ⟨_, rfl⟩
 rw [hW0] at B0 q0 hmo
 obtain ⟨x0, x1⟩ := cells2 q0
 have HG := kq5 hka hmo hli B0 q0
 clear hka hmo hli B0 q0 h hf
 go_enter Tryz.func138, Tryz.ntmps138
 go_wp2_with fail
 refine HG.out.1.mono ?_
 rintro e w1 ⟨rfl, rfl⟩
 go_wp2_with fail
 refine HG.out.2.1.mono ?_
 rintro e w1 ⟨⟨z, rfl, hz⟩, hb1⟩
 have q1 := (hb1.block w.heap.size (gl HG.out.2.2.2.2)).trans HG.out.2.2.2.2
 have B1 := HG.out.2.2.2.1.trans (hb1.mono HG.out.2.2.2.1.size)
 have A2 := (Below.refl w1.heap.size w1).alloc (Nat.le_refl _) (.cells #[.int .i64 z] 3)
 have q2 := (A2.block w.heap.size (gl q1)).trans q1
 have B2 := B1.trans (A2.mono B1.size)
 clear hW0 x0 x1
 obtain ⟨W1, hW1⟩ : ∃ W1, w1.alloc (.cells #[.int .i64 z] 3) = W1 := ⟨_, rfl⟩
 rw [hW1] at q2 B2
 obtain ⟨x0, x1⟩ := cells2 q2
 have H2 := Lib.hid B2
 clear hb1 q1 B1 A2 q2 B2
 go_wp2_with fail
 refine (HG.out.2.2.1 _ H2.out _).mono ?_
 rintro e w3 ⟨rfl, hb3⟩
 have H3 := Lib.hid (H2.out.trans (hb3.mono H2.out.size))
 clear hb3
 go_wp2_with fail
 go_ret
 exact ⟨rfl, H3.out⟩
theorem bulk_list03 {w : World} {ps : Nat} {S : St} {o : Nat → Nat} {Y : Nat → Prop} (h : StOn w ps S Y) (hf : Fit S o) {t : Nat} (t1 : 2 ≤ t) (t2 : t ≤ 16) :
 Calls Tryz.prog 108 #[PV ps, .int .i64 3, .int .i64 t, .int .u64 0] w fun e w' => e = .returned (.tuple #[.slice none 0 0, .int .i64 0]) ∧ Below w.heap.size w w' := by
 have hc := bulk_check03 h hf.inv t1 t2
 have hl := fun W (hW : Below w.heap.size w W) => btree_list0 (h.below hW) hf t1 t2
 have HG := kq2 hc hl
 clear hc hl h hf
 go_enter Tryz.func108, Tryz.ntmps108
 go_wp2_with fail
 refine HG.out.1.mono ?_
 rintro e w1 ⟨rfl, rfl⟩
 have H1 := Lib.hid (Below.refl w.heap.size w)
 go_wp2_with fail
 refine (HG.out.2 _ H1.out).mono ?_
 rintro e w2 ⟨rfl, hb2⟩
 have H2 := Lib.hid (H1.out.trans (hb2.mono H1.out.size))
 clear hb2
 go_wp2_with fail
 go_loopw [16, 18, 19, 20, 21, 22, 62] (fun l1 _ _ _ _ _ k wr => l1 = .slice none 0 0 ∧ k = .int .i64 0 ∧ wr = w2) (fun _ _ _ _ _ _ _ _ => 0)
 case atStart => exact ⟨rfl, rfl, rfl⟩
 case round =>
  obtain ⟨rfl, rfl, rfl⟩ := hrel
  go_wp2_with fail
  go_ret2
  exact ⟨rfl, H2.out⟩
theorem treeF_check0 {w : World} {px ps kind td : Nat} {ty : TypeId} {kv : Value} (hT : TreeF w px ps ty kv kind td 0) (hs : ∀ W, Below w.heap.size w W → Calls Tryz.prog 107 #[PV ps, .int .i64 kind, .int .i64 td, .int .u64 0] W fun e w' => e = .returned (.int .i64 0) ∧ Below W.heap.size W w') :
 Calls Tryz.prog 86 #[PV px] w fun e w' => e = .returned (.int .i64 0) ∧ Below w.heap.size w w' := by
 have hn := treeF_none hT
 have hs := hs _ (Below.refl _ w).drew
 obtain ⟨I, hIi, hIo⟩ := treeF_class px ps ty kv kind td 0
 have hy0 := fun x : Keeps I => hIi _ x.ok
 simp only [TreeF] at hy0
 obtain ⟨m0, m1, m2, m3, m4⟩ := cellsX5 hy0
 have hI0 : I w.drew := hIo _ hT
 have HG := kq4 hn hs hT hIo
 clear hn hs hT hIi hIo hy0
 go_enter Tryz.func86, Tryz.ntmps86
 go_wp2_with fail
 refine HG.out.1.mono ?_
 rintro e w1 ⟨rfl, rfl⟩
 go_wp2_with fail
 refine wp_region_plan I (.take 0 (.take 1 (.take 2 (.take 3 (.take 4 (.take 5 (.take 6 (.take 7 (.take 8 (.take 9 (.take 10 (.take 11 (.take 12 (.take 13 (.take 14 (.take 15 (.go 16 (.go 17 .nil)))))))))))))))))) (by kernel_rfl) (by kernel_rfl) hI0 ?_
 iterate 16
  refine' plan_take _ (by rfl) _ (by rfl) ?_ ?_
  rotate_left
  · rintro _ ⟨x, rfl⟩
    have hxm0 := m0 x
    have hxm1 := m1 x
    have hxm2 := m2 x
    have hxm3 := m3 x
    have hxm4 := m4 x
    go_simp
    try with_reducible rfl
  try simp only [pu]
 refine pD fun K hK => ?_
 go_simp
 refine HG.out.2.1.mono ?_
 rintro e w2 ⟨rfl, hb2⟩
 have T2 := TreeF.below (w := w.drew) HG.out.2.2.1 hb2
 have B2 := kq2 T2 ((Below.refl w.heap.size w).drew.trans hb2)
 clear T2 hb2
 try go_simp
 refine hK.out _ _ (HG.out.2.2.2 _ B2.out.1) ?_
 clear hK K
 try simp only [pu]
 refine pD fun K hK => ?_
 go_simp
 try go_simp
 refine hK.out _ _ (HG.out.2.2.2 _ B2.out.1) ?_
 clear hK K
 try simp only [pu]
 refine plan_nil ?_
 go_wp2_with fail
 go_ret
 exact ⟨rfl, B2.out.2⟩
theorem treeF_list0 {w : World} {px ps kind td : Nat} {ty : TypeId} {kv : Value} (hT : TreeF w px ps ty kv kind td 0) (hs : ∀ W, Below w.heap.size w W → Calls Tryz.prog 108 #[PV ps, .int .i64 kind, .int .i64 td, .int .u64 0] W fun e w' => e = .returned (.tuple #[.slice none 0 0, .int .i64 0]) ∧ Below W.heap.size W w') :
 Calls Tryz.prog 87 #[PV px] w fun e w' => e = .returned (.slice none 0 0) ∧ Below w.heap.size w w' := by
 have hn := treeF_none hT
 have hs := hs _ (Below.refl _ w).drew
 obtain ⟨I, hIi, hIo⟩ := treeF_class px ps ty kv kind td 0
 have hy0 := fun x : Keeps I => hIi _ x.ok
 simp only [TreeF] at hy0
 obtain ⟨m0, m1, m2, m3, m4⟩ := cellsX5 hy0
 have hI0 : I w.drew := hIo _ hT
 have HG := kq4 hn hs hT hIo
 clear hn hs hT hIi hIo hy0
 go_enter Tryz.func87, Tryz.ntmps87
 go_wp2_with fail
 refine HG.out.1.mono ?_
 rintro e w1 ⟨rfl, rfl⟩
 go_wp2_with fail
 refine wp_region_plan I (.take 0 (.take 1 (.take 2 (.take 3 (.take 4 (.take 5 (.take 6 (.take 7 (.take 8 (.take 9 (.take 10 (.take 11 (.take 12 (.take 13 (.take 14 (.take 15 (.go 16 (.take 17 (.take 18 (.take 19 (.go 20 (.go 21 .nil)))))))))))))))))))))) (by kernel_rfl) (by kernel_rfl) hI0 ?_
 iterate 16
  refine' plan_take _ (by rfl) _ (by rfl) ?_ ?_
  rotate_left
  · rintro _ ⟨x, rfl⟩
    have hxm0 := m0 x
    have hxm1 := m1 x
    have hxm2 := m2 x
    have hxm3 := m3 x
    have hxm4 := m4 x
    go_simp
    try with_reducible rfl
  try simp only [pu]
 refine pD fun K hK => ?_
 go_simp
 refine HG.out.2.1.mono ?_
 rintro e w2 ⟨rfl, hb2⟩
 have T2 := TreeF.below (w := w.drew) HG.out.2.2.1 hb2
 have B2 := kq2 T2 ((Below.refl w.heap.size w).drew.trans hb2)
 clear T2 hb2
 try go_simp
 refine hK.out _ _ (HG.out.2.2.2 _ B2.out.1) ?_
 clear hK K
 try simp only [pu]
 iterate 3
  refine' plan_take _ (by rfl) _ (by rfl) ?_ ?_
  rotate_left
  · rintro _ ⟨x, rfl⟩
    go_simp
    try with_reducible rfl
  try simp only [pu]
 refine pD fun K hK => ?_
 go_simp
 try go_simp
 refine hK.out _ _ (HG.out.2.2.2 _ B2.out.1) ?_
 clear hK K
 try simp only [pu]
 refine pD fun K hK => ?_
 go_simp
 try go_simp
 refine hK.out _ _ (HG.out.2.2.2 _ B2.out.1) ?_
 clear hK K
 try simp only [pu]
 refine plan_nil ?_
 go_wp2_with fail
 go_ret
 exact ⟨rfl, B2.out.2⟩
theorem mapH_of {w : World} {ps px : Nat} {S : St} {Y : Nat → Prop} (h : StOn w ps S Y) (hi : Inv S) (hc : Calls Tryz.prog 86 #[PV px] w fun e w' => e = .returned (.int .i64 0) ∧ Below w.heap.size w w') (hls : ∀ W, Below w.heap.size w W → Calls Tryz.prog 87 #[PV px] W fun e w' => e = .returned (.slice none 0 0) ∧ Below W.heap.size W w') (limit : Nat) (hl : limit ≤ 1000) :
 Calls Tryz.prog 60 #[PV ps, PV px, .int .i64 limit] w fun e w' => ∃ pm, e = .returned (.tuple #[PV pm, .int .i64 0]) ∧ MapOn w' pm px ps limit ∧ Below w.heap.size w w' ∧ w.heap.size ≤ pm := by
 have hlen := st_len h hi 0 (by omega)
 rw [len_zero] at hlen
 have h1 : ((limit : Int) < 0) = False := eq_false (by omega)
 have h2 : (1000 < (limit : Int)) = False := eq_false (by omega)
 have HG := kq3 hlen hc hls
 clear hlen hc hls h hi hl
 go_enter Tryz.func60, Tryz.ntmps60
 go_wp2_with fail
 refine HG.out.1.mono ?_
 rintro e w1 ⟨rfl, rfl⟩
 go_wp2_with fail
 refine HG.out.2.1.mono ?_
 rintro e w1 ⟨rfl, hb1⟩
 have H1 := Lib.hid hb1
 clear hb1
 go_wp2_with fail
 refine (HG.out.2.2 _ H1.out).mono ?_
 rintro e w2 ⟨rfl, hb2⟩
 have H2 := Lib.hid (H1.out.trans (hb2.mono H1.out.size))
 clear hb2
 go_wp2_with fail
 go_loopw [11, 33] (fun _ k wr => k = .int .i64 0 ∧ wr = w2) (fun _ _ _ => 0)
 case atStart => exact ⟨rfl, rfl⟩
 case round =>
  obtain ⟨rfl, rfl⟩ := hrel
  have q := heap_alloc_new wr (.cells #[PV ps, PV px, .int .i64 limit] 92)
  have HB := kq2 q (H2.out.alloc H2.out.size (.cells #[PV ps, PV px, .int .i64 limit] 92))
  clear q
  go_wp2_with fail
  go_ret2
  exact ⟨wr.heap.size, rfl, HB.out.1, HB.out.2, H2.out.size⟩
theorem mapH_new {w : World} {ps : Nat} {S : St} {Y : Nat → Prop} (h : StOn w ps S Y) (kind t : Int) (limit : Nat) (K : TreeK) (hlt : ∀ {w px ps root}, K.On w px ps root → px < w.heap.size) (hbl : ∀ {w w' px ps root}, K.On w px ps root → Below w.heap.size w w' → K.On w' px ps root) (hn : Calls Tryz.prog 59 #[PV ps, .int .i64 kind, .int .i64 t] w fun e w' => ∃ px, e = .returned (.tuple #[PV px, .int .i64 0]) ∧ K.On w' px ps 0 ∧ Below w.heap.size w w' ∧ w.heap.size ≤ px) (ho : ∀ W px, StOn W ps S Y → K.On W px ps 0 → Calls Tryz.prog 60 #[PV ps, PV px, .int .i64 limit] W fun e w' => ∃ pm, e = .returned (.tuple #[PV pm, .int .i64 0]) ∧ MapOn w' pm px ps limit ∧ Below W.heap.size W w' ∧ W.heap.size ≤ pm) :
 Calls Tryz.prog 24 #[PV ps, .int .i64 kind, .int .i64 t, .int .i64 limit] w fun e w' => ∃ pm px, e = .returned (.tuple #[PV pm, .int .i64 0]) ∧ MapOn w' pm px ps limit ∧ K.On w' px ps 0 ∧ Below w.heap.size w w' ∧ w.heap.size ≤ pm ∧ w.heap.size ≤ px ∧ pm ≠ px := by
 have ho := fun W px (hW : Below w.heap.size w W) (hT : K.On W px ps 0) => ho W px (h.below hW) hT
 have HG := kq2 hn ho
 clear hn ho h
 go_enter Tryz.func24, Tryz.ntmps24
 go_wp2_with fail
 refine HG.out.1.mono ?_
 rintro e w1 ⟨px, rfl, hT, hb1, lx⟩
 have H1 := kq3 hT hb1 lx
 clear hT hb1 lx
 go_wp2_with fail
 refine (HG.out.2 _ px H1.out.2.1 H1.out.1).mono ?_
 rintro e w2 ⟨pm, rfl, hM, hb2, lm⟩
 have H2 := kq3 hM hb2 lm
 clear hM hb2 lm
 go_wp2_with fail
 go_ret2
 have hlt := hlt H1.out.1
 exact ⟨pm, px, rfl, H2.out.1, hbl H1.out.1 H2.out.2.1, H1.out.2.1.trans (H2.out.2.1.mono H1.out.2.1.size), Nat.le_trans H1.out.2.1.size H2.out.2.2, H1.out.2.2, by have := H2.out.2.2; omega⟩
structure KindFP (kind t : Int) (K : TreeK) (P : List (List UInt8 × List UInt8) → Prop) : Prop where
 ok : TreeOkP K P
 zero : ∀ {S : St} {o : Nat → Nat}, Fit S o → K.Hold S o 0 [] []
 new : ∀ {w : World} {ps : Nat} {S : St} {o : Nat → Nat} {Y : Nat → Prop}, StOn w ps S Y → Fit S o → Calls Tryz.prog 59 #[PV ps, .int .i64 kind, .int .i64 t] w fun e w' => ∃ px, e = .returned (.tuple #[PV px, .int .i64 0]) ∧ K.On w' px ps 0 ∧ Below w.heap.size w w' ∧ w.heap.size ≤ px
 of : ∀ {w : World} {ps px : Nat} {S : St} {o : Nat → Nat} {Y : Nat → Prop}, StOn w ps S Y → Fit S o → K.On w px ps 0 → ∀ limit : Nat, limit ≤ 1000 → Calls Tryz.prog 60 #[PV ps, PV px, .int .i64 limit] w fun e w' => ∃ pm, e = .returned (.tuple #[PV pm, .int .i64 0]) ∧ MapOn w' pm px ps limit ∧ Below w.heap.size w w' ∧ w.heap.size ≤ pm
abbrev KindF (kind t : Int) (K : TreeK) : Prop := KindFP kind t K fun _ => True
theorem kindF_bin {P : List (List UInt8 × List UInt8) → Prop} {kind : Nat} {j c : FuncId} {jn : Jn} {Ok : Tr → Prop} (hk : KindOk kind j c jn) (hok : TreeOkP (binK kind Ok) P) (hnil : Ok .nil) (t : Int) : KindFP kind t (binK kind Ok) P where
 ok := hok
 zero hf := ⟨.nil, ⟨hf, trivial, hnil, List.nodup_nil, fun _ h => (List.not_mem_nil h).elim, List.Pairwise.nil⟩, rfl, rfl, rfl⟩
 new h hf := tree_new h hf.inv hk t
 of h hf hT limit hl := mapH_of h hf.inv (treeF_check0 hT fun _ hW => bulk_check0 (h.below hW) hf.inv hk 0) (fun _ hW => treeF_list0 (TreeF.below hT hW) fun _ hW' => bulk_list0 (h.below (hW.trans (hW'.mono hW.size))) hf.inv hk 0) limit hl
theorem kindF_many {P : List (List UInt8 × List UInt8) → Prop} {t : Nat} (hok : TreeOkP (manyK t) P) (t1 : 2 ≤ t) (t2 : t ≤ 16) : KindFP 3 t (manyK t) P where
 ok := hok
 zero hf := Or.inl ⟨⟨hf, t1, t2⟩, rfl, rfl, rfl⟩
 new h hf := many_new h hf.inv t1 t2
 of h hf hT limit hl := mapH_of h hf.inv (treeF_check0 hT fun _ hW => ((bulk_check03 (h.below hW) hf.inv t1 t2).mono fun _ _ ⟨q1, q2⟩ => ⟨q1, q2 ▸ Below.refl _ _⟩)) (fun _ hW => treeF_list0 (TreeF.below hT hW) fun _ hW' => bulk_list03 (h.below (hW.trans (hW'.mono hW.size))) hf t1 t2) limit hl
theorem kind_anyP {P : List (List UInt8 × List UInt8) → Prop} (h1 : ∃ K, ∀ t, KindFP 1 t K P) (h2 : ∃ K, ∀ t, KindFP 2 t K P) (hok : ∀ t, TreeOkP (manyK t) P) (kind t : Int) (h : kind = 1 ∨ kind = 2 ∨ kind = 3 ∧ 2 ≤ t ∧ t ≤ 16) : ∃ K, KindFP kind t K P := by
 rcases h with rfl | rfl | ⟨rfl, q1, q2⟩
 · exact h1.imp fun _ h => h t
 · exact h2.imp fun _ h => h t
 · obtain ⟨n, rfl⟩ : ∃ n : Nat, t = n := ⟨t.toNat, by omega⟩
   exact ⟨_, kindF_many (hok n) (by omega) (by omega)⟩
theorem kind_red2 {P : List (List UInt8 × List UInt8) → Prop} : ∃ K, ∀ t, KindFP 2 t K P := ⟨_, kindF_bin kind_redJ (bin_ok kind_redJ jspec_red) jspec_red.nil⟩
theorem kind_any0 (kind t : Int) (h : kind = 1 ∨ kind = 2 ∨ kind = 3 ∧ 2 ≤ t ∧ t ≤ 16) : ∃ K, KindFP kind t K fun L => L = [] := kind_anyP ⟨_, kindF_bin kind_avl (bin_ok0 kind_avl jspec_avl avl_nil) jspec_avl.nil⟩ kind_red2 many_ok0 kind t h
def atL (L : List (List UInt8 × List UInt8)) (k : Int) : Option (List UInt8 × List UInt8) := if k < 0 then none else L[k.toNat]?
def floorL (L : List (List UInt8 × List UInt8)) (a : List UInt8) : Int := if (Bt.getL L a).isSome = true then (cntL L a : Int) else (cntL L a : Int) - 1
structure MpAt (K : TreeK) (w W : World) (ps pm px limit root : Nat) (S : St) (Y : Nat → Prop) (L : List (List UInt8 × List UInt8)) : Prop where
 st : StOn W ps S Y
 hold : ∃ o R, K.Hold S o root L R
 on : K.On W px ps root
 map : MapOn W pm px ps limit
 bl : Below w.heap.size w W
 own : ∀ k, k < w.heap.size → Y k
 yx : Y px
 ym : Y pm
 lx : w.heap.size ≤ px
 lm : w.heap.size ≤ pm
 ne : pm ≠ px
theorem atL_none {L : List (List UInt8 × List UInt8)} {k : Int} (h : atL L k = none) : k < 0 ∨ (L.length : Int) ≤ k := by
 unfold atL at h
 split at h
 · exact Or.inl ‹_›
 · have := List.getElem?_eq_none_iff.1 h
   omega
theorem atL_some {L : List (List UInt8 × List UInt8)} {k : Int} {p : List UInt8 × List UInt8} (h : atL L k = some p) : ∃ n : Nat, k = n ∧ L[n]? = some p := by
 unfold atL at h
 split at h
 · cases h
 · exact ⟨k.toNat, by omega, h⟩
section
variable {P : List (List UInt8 × List UInt8) → Prop} {K : TreeK} {w W : World} {ps pm px limit root : Nat} {S : St} {Y : Nat → Prop} {L : List (List UInt8 × List UInt8)}
theorem MpAt.below (ok : TreeOkP K P) (h : MpAt K w W ps pm px limit root S Y L) {W' : World} (hb : Below W.heap.size W W') : MpAt K w W' ps pm px limit root S Y L :=
 ⟨h.st.below hb, h.hold, ok.onBelow h.on hb, h.map.below hb, h.bl.trans (hb.mono h.bl.size), h.own, h.yx, h.ym, h.lx, h.lm, h.ne⟩
theorem MpAt.treeAt (ok : TreeOkP K P) (h : MpAt K w W ps pm px limit root S Y L) (hc : L.length < 98) (k : Int) (hk : k < 4611686018427387904) (q : Option (List UInt8 × List UInt8)) (hq : atL L k = q) :
 ∀ V, Below W.heap.size W V → Calls Tryz.prog 53 #[PV px, .int .i64 k] V fun e w' => e = .returned (.tuple #[prV (q.getD ([], [])), .int .i64 ((if q.isSome = true then 0 else 2 : Nat) : Nat)]) ∧ Below V.heap.size V w' := fun V hV => by
 obtain ⟨o, R, hH⟩ := h.hold
 have h' := h.below ok hV
 cases q with
 | none => exact ok.atRef h'.st hH hc h'.on k hk (atL_none hq)
 | some p =>
  obtain ⟨n, rfl, hn⟩ := atL_some hq
  exact ok.at' h'.st hH hc h'.on n p hn
theorem MpAt.len (ok : TreeOkP K P) (h : MpAt K w W ps pm px limit root S Y L) (hc : L.length < 98) :
 Calls Tryz.prog 22 #[PV pm] W fun e w' => e = .returned (.int .i64 (L.length : Nat)) ∧ Below W.heap.size W w' := by
 obtain ⟨o, R, hH⟩ := h.hold
 exact mapH_len h.map (ok.len h.st hH hc h.on)
theorem MpAt.rank (ok : TreeOkP K P) (h : MpAt K w W ps pm px limit root S Y L) (hc : L.length < 98) (a : List UInt8) :
 Calls Tryz.prog 14 #[PV pm, SV a] W fun e w' => e = .returned (.int .i64 (cntL L a : Nat)) ∧ Below W.heap.size W w' := by
 obtain ⟨o, R, hH⟩ := h.hold
 exact mapH_rank h.map a (ok.rank h.st hH hc h.on a)
theorem MpAt.get (ok : TreeOkP K P) (h : MpAt K w W ps pm px limit root S Y L) (hc : L.length < 98) (a : List UInt8) :
 Calls Tryz.prog 15 #[PV pm, SV a] W fun e w' => e = .returned (.tuple #[SV ((Bt.getL L a).getD []), .int .i64 ((if (Bt.getL L a).isSome = true then 0 else 5 : Nat) : Nat)]) ∧ Below W.heap.size W w' := by
 obtain ⟨o, R, hH⟩ := h.hold
 have hg := ok.get h.st hH hc h.on a
 cases q : Bt.getL L a with
 | none =>
  rw [q] at hg
  exact map_get_none h.map a hg
 | some v =>
  rw [q] at hg
  exact map_get_some h.map a v hg
theorem MpAt.select (ok : TreeOkP K P) (h : MpAt K w W ps pm px limit root S Y L) (hc : L.length < 98) (k : Int) (hk : k < 4611686018427387904) (q : Option (List UInt8 × List UInt8)) (hq : atL L k = q) :
 Calls Tryz.prog 18 #[PV pm, .int .i64 k] W fun e w' => e = .returned (.tuple #[prV (q.getD ([], [])), .int .i64 ((if q.isSome = true then 0 else 2 : Nat) : Nat)]) ∧ Below W.heap.size W w' :=
 mapH_select h.map k _ _ (h.treeAt ok hc k hk q hq)
theorem MpAt.place (ok : TreeOkP K P) (h : MpAt K w W ps pm px limit root S Y L) (hc : L.length < 98) (a : List UInt8) :
 ∀ V, Below W.heap.size W V → Calls Tryz.prog 52 #[PV pm, SV a] V fun e w' => e = .returned (.int .i64 (floorL L a)) ∧ Below V.heap.size V w' := fun V hV => by
 obtain ⟨o, R, hH⟩ := h.hold
 have h' := h.below ok hV
 exact mapH_below h'.map a (n := cntL L a) (by have := cntL_le L a; omega) (Bt.getL L a).isSome ((Bt.getL L a).getD []) (ok.rank h'.st hH hc h'.on a) fun U hU => ok.get (h'.below ok hU).st hH hc (h'.below ok hU).on a
theorem floorL_lt (hc : L.length < 98) (a : List UInt8) : floorL L a < 4611686018427387904 := by
 have := cntL_le L a
 unfold floorL
 split <;> omega
theorem MpAt.floor (ok : TreeOkP K P) (h : MpAt K w W ps pm px limit root S Y L) (hc : L.length < 98) (a : List UInt8) (q : Option (List UInt8 × List UInt8)) (hq : atL L (floorL L a) = q) :
 Calls Tryz.prog 16 #[PV pm, SV a] W fun e w' => e = .returned (.tuple #[prV (q.getD ([], [])), .int .i64 ((if q.isSome = true then 0 else 5 : Nat) : Nat)]) ∧ Below W.heap.size W w' := by
 have ht := h.treeAt ok hc (floorL L a) (floorL_lt hc a) q hq
 cases q with
 | none => exact mapH_floor_ref h.map a (floorL L a) (h.place ok hc a) [] [] ht
 | some p => exact mapH_floor h.map a (floorL L a) (h.place ok hc a) p ht
theorem MpAt.ceiling (ok : TreeOkP K P) (h : MpAt K w W ps pm px limit root S Y L) (hc : L.length < 98) (a : List UInt8) (q : Option (List UInt8 × List UInt8)) (hq : atL L (cntL L a : Nat) = q) :
 Calls Tryz.prog 17 #[PV pm, SV a] W fun e w' => e = .returned (.tuple #[prV (q.getD ([], [])), .int .i64 ((if q.isSome = true then 0 else 5 : Nat) : Nat)]) ∧ Below W.heap.size W w' := by
 have hl := cntL_le L a
 have ht := h.treeAt ok hc (cntL L a : Nat) (by omega) q hq
 have hr := fun V (hV : Below W.heap.size W V) => (h.below ok hV).rank ok hc a
 cases q with
 | none => exact mapH_ceiling_ref h.map a (cntL L a : Nat) hr [] [] ht
 | some p => exact mapH_ceiling h.map a (cntL L a : Nat) hr p ht
theorem MpAt.absent_there (ok : TreeOkP K P) (h : MpAt K w W ps pm px limit root S Y L) (hc : L.length < 98) (a b : List UInt8) (ha : a.length ≤ limit) (hb : b.length ≤ limit) {v : List UInt8} (hv : Bt.getL L a = some v) :
 Calls Tryz.prog 25 #[PV pm, SV a, SV b] W fun e w' => e = .returned (.int .i64 6) ∧ Below W.heap.size W w' := by
 obtain ⟨o, R, hH⟩ := h.hold
 have hg := ok.get h.st hH hc h.on a
 rw [hv] at hg
 exact mapH_absent_there h.map a b ha hb hg
theorem MpAt.put {p q : Nat} (ok : TreeOkP K P) (h : MpAt K w W ps pm px limit root S Y L) (hs : Space S (20 + p) (9 + q)) (a b : List UInt8) (ha : a.length ≤ limit) (hb : b.length ≤ limit) (hl : limit ≤ 1000) (hc : L.length < 98) (hP : P L) :
 Calls Tryz.prog 23 #[PV pm, SV a, SV b] W fun e w' => e = .returned (.tuple #[SV ((Bt.getL L a).getD []), .bool (Bt.getL L a).isSome, .int .i64 0]) ∧ ∃ (x : Nat) (S3 : St), MpAt K w w' ps pm px limit x S3 Y (putL L a b) ∧ Space S3 p q := by
 obtain ⟨o, R, hH⟩ := h.hold
 refine mapH_put h.map a b _ _ ha hb ((ok.put h.st hH hc h.on h.yx hP a b (by omega) (by omega) (hs.mono (by omega) (by omega))).mono ?_)
 rintro e w' ⟨x, S3, rfl, h1, h2, h3, h4⟩
 obtain ⟨o3, R3, h5, _⟩ := h4.holds
 exact ⟨rfl, x, S3, ⟨h1, ⟨o3, R3, h5⟩, h3, (h2.block pm ⟨h.ym, h.ne⟩).trans h.map, h.bl.trans (Keep.below (h2.mono fun k hk => ⟨h.own k hk, fun q => by have := h.lx; omega⟩)), h.own, h.yx, h.ym, h.lx, h.lm, h.ne⟩, Space.grew hs h4.grew⟩
theorem map_newK {kind t : Int} (hk : KindFP kind t K P) {o : Nat → Nat} (h : StOn W ps S Y) (hf : Fit S o) (hb : Below w.heap.size w W) (hown : ∀ k, k < w.heap.size → Y k) (limit : Nat) (hl : limit ≤ 1000) :
 Calls Tryz.prog 24 #[PV ps, .int .i64 kind, .int .i64 t, .int .i64 limit] W fun e w' => ∃ (pm px : Nat) (Z : Nat → Prop), e = .returned (.tuple #[PV pm, .int .i64 0]) ∧ MpAt K w w' ps pm px limit 0 S Z [] ∧ (∀ k, Y k → Z k) ∧ Below W.heap.size W w' := by
 refine (mapH_new h kind t limit K hk.ok.onLt hk.ok.onBelow (hk.new h hf) fun V px hV hT => hk.of hV hf hT limit hl).mono ?_
 rintro e w' ⟨pm, px, rfl, hM, hT, hb2, lm, lx, ne⟩
 exact ⟨pm, px, fun k => Y k ∨ (W.heap.size ≤ k ∧ k < w'.heap.size), rfl, ⟨h.wide hb2, ⟨o, [], hk.zero hf⟩, hT, hM, hb.trans (hb2.mono hb.size), fun k hk => Or.inl (hown k hk), Or.inr ⟨lx, hk.ok.onLt hT⟩, Or.inr ⟨lm, (gl hM)⟩, Nat.le_trans hb.size lx, Nat.le_trans hb.size lm, ne⟩, fun k hk => Or.inl hk, hb2⟩
end
theorem eql_ax (W : World) : (binOp .eql 34 (.agg #[SV [97], SV [120]]) (.agg #[SV [97], SV [120]])).run Tryz.prog W = .ok (.bool true) W := by kernel_rfl
theorem eql_cy (W : World) : (binOp .eql 34 (.agg #[SV [99], SV [121]]) (.agg #[SV [99], SV [121]])).run Tryz.prog W = .ok (.bool true) W := by kernel_rfl
theorem awake20g {w : World} (ht : Tab64 w) :
 Calls Tryz.prog 12 #[] w fun e w' => e = .returned (.bool true) ∧ Below w.heap.size w w' := by
 have hsn := store_new ht 262144 1000 4294967295 (by omega) (by omega) (by omega)
 have hfe := fit_empty 262144 1000 4294967295 (by omega) (by omega) (by omega)
 have hK : KindF 2 0 (binK 2 Rb) := kindF_bin kind_redJ (bin_ok kind_redJ jspec_red) jspec_red.nil 0
 obtain ⟨K, hKe⟩ : ∃ K, binK 2 Rb = K := ⟨_, rfl⟩
 rw [hKe] at hK
 clear hKe
 have hsp : Space ⟨⟨262144, []⟩, ⟨1000, 4294967295, []⟩⟩ (20 + 20) (9 + 9) := ⟨by decide, by decide⟩
 have ok := hK.ok
 have HG := kq5 hsn hfe hsp hK ok
 clear hsn hfe hsp hK ht ok
 go_enter Tryz.func12, Tryz.ntmps12
 go_wp2_with fail
 refine HG.out.1.mono ?_
 rintro e w1 ⟨ps, rfl, hs1, hb1⟩
 have hmn := map_newK HG.out.2.2.2.1 hs1 HG.out.2.1 hb1 (fun k hk => hk) 3 (by omega)
 have H1 := Lib.hid hmn
 clear hs1 hb1 hmn
 go_wp2_with fail
 refine H1.out.mono ?_
 rintro e w2 ⟨pm, px, Y, rfl, hm, _, hb2⟩
 have hp1 := hm.put HG.out.2.2.2.2 HG.out.2.2.1 [97] [120] (by decide) (by decide) (by omega) (by decide) trivial
 have H2 := Lib.hid hp1
 clear hm hb2 hp1
 go_wp2_with fail
 refine H2.out.mono ?_
 rintro e w3 ⟨rfl, x1, S1, hm3, hs3⟩
 have hp2 := hm3.put (p := 0) (q := 0) HG.out.2.2.2.2 hs3 [99] [121] (by decide) (by decide) (by omega) (by decide) trivial
 have H3 := Lib.hid hp2
 clear hm3 hs3 hp2
 go_wp2_with fail
 refine H3.out.mono ?_
 rintro e w4 ⟨rfl, x2, S2, hm4, hs4⟩
 have hfl := fun {V : World} (hV : Below w4.heap.size w4 V) => (hm4.below HG.out.2.2.2.2 hV).floor HG.out.2.2.2.2 (by decide) [98] (some ([97], [120])) (by decide)
 have hfn := fun {V : World} (hV : Below w4.heap.size w4 V) => (hm4.below HG.out.2.2.2.2 hV).floor HG.out.2.2.2.2 (by decide) [65] none (by decide)
 have hce := fun {V : World} (hV : Below w4.heap.size w4 V) => (hm4.below HG.out.2.2.2.2 hV).ceiling HG.out.2.2.2.2 (by decide) [98] (some ([99], [121])) (by decide)
 have hpl := fun {V : World} (hV : Below w4.heap.size w4 V) => mapH_put_long (hm4.below HG.out.2.2.2.2 hV).map [97, 98, 99, 100] [120] (Or.inl (by decide))
 have hpa := fun {V : World} (hV : Below w4.heap.size w4 V) => (hm4.below HG.out.2.2.2.2 hV).absent_there HG.out.2.2.2.2 (by decide) [97] [122] (by decide) (by decide) (v := [120]) (by decide)
 have HH := kq6 (@hfl) (@hfn) (@hce) (@hpl) (@hpa) hm4.bl
 clear hm4 hs4 hfl hfn hce hpl hpa
 go_wp2_with fail
 refine (HH.out.1 (Below.refl _ _)).mono ?_
 rintro e w5 ⟨rfl, hb5⟩
 have A5 := hb5.trans (((Below.refl w5.heap.size w5).alloc (Nat.le_refl _) (.cells #[SV [97], SV [120]] 34)).mono hb5.size)
 have q5 := heap_alloc_new w5 (.cells #[SV [97], SV [120]] 34)
 have H5 := kq2 A5 q5
 clear A5 q5 hb5
 simp only [prV, Option.getD_some, Option.isSome_some, if_true]
 go_wp2_with fail
 refine (HH.out.2.2.1 H5.out.1).mono ?_
 rintro e w6 ⟨rfl, hb6⟩
 have q6 := (hb6.block w5.heap.size (by simp)).trans H5.out.2
 have A6 := (Below.refl w6.heap.size w6).alloc (Nat.le_refl _) (.cells #[SV [99], SV [121]] 34)
 have p6 := (A6.block _ (gl q6)).trans q6
 have r6 := heap_alloc_new w6 (.cells #[SV [99], SV [121]] 34)
 have B6 := (H5.out.1.trans (hb6.mono H5.out.1.size))
 have H6 := kq3 (B6.trans (A6.mono B6.size)) p6 r6
 clear q6 A6 p6 r6 B6 hb6
 simp only [prV, Option.getD_some, Option.isSome_some, if_true]
 go_wp2_with fail
 refine (HH.out.2.1 H6.out.1).mono ?_
 rintro e w7 ⟨rfl, hb7⟩
 have q7 := (hb7.block w5.heap.size (gl H6.out.2.1)).trans H6.out.2.1
 have p7 := (hb7.block w6.heap.size (gl H6.out.2.2)).trans H6.out.2.2
 have B7 := H6.out.1.trans (hb7.mono H6.out.1.size)
 have A7 := (Below.refl w7.heap.size w7).alloc (Nat.le_refl _) (.cells #[.string ⟨#[]⟩, .string ⟨#[]⟩] 34)
 have q8 := (A7.block _ (gl q7)).trans q7
 have p8 := (A7.block _ (gl p7)).trans p7
 have H7 := kq3 (B7.trans (A7.mono B7.size)) q8 p8
 clear hb7 q7 p7 B7 A7 q8 p8
 simp only [prV, Option.getD_none, Option.isSome_none, Bool.false_eq_true, if_false]
 go_wp2_with fail
 refine (HH.out.2.2.2.1 H7.out.1).mono ?_
 rintro e w8 ⟨rfl, rfl⟩
 obtain ⟨W8, hW8⟩ : ∃ W8, w7.alloc (.cells #[.string ⟨#[]⟩, .string ⟨#[]⟩] 34) = W8 := ⟨_, rfl⟩
 have q8 := H7.out.2.1
 have p8 := H7.out.2.2
 rw [hW8] at q8 p8
 obtain ⟨c0, c1⟩ := cells2 p8
 obtain ⟨d0, d1⟩ := cells2 q8
 clear q8 p8
 have ea := eql_ax
 have ec := eql_cy
 rw [hW8]
 have H8 := Lib.hid (hW8 ▸ H7.out.1)
 clear hW8
 go_wp2_with fail
 refine (HH.out.2.2.2.2.1 H8.out).mono ?_
 rintro e w9 ⟨rfl, hb9⟩
 have H9 := Lib.hid (H8.out.trans (hb9.mono H8.out.size))
 clear hb9
 go_wp2_with fail
 go_ret
 exact ⟨rfl, HH.out.2.2.2.2.2.trans (H9.out.mono HH.out.2.2.2.2.2.size)⟩
