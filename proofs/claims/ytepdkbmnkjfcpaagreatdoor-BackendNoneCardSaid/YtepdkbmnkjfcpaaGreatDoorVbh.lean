/- B-trees: Insert of the first key: the walk. -/
import Derived.Test.YtepdkbmnkjfcpaaGreatDoorVbg
set_option maxRecDepth 100000
set_option maxHeartbeats 6400000
namespace Go.Proofs.YtepdkbmnkjfcpaaGreatDoor
open Go.RowKit Go.BigFrame Go.Maps Go.WideMaps Lf Tr
open Go.Shelf
namespace Bt
structure Empty (S : St) (o : Nat → Nat) (t : Nat) : Prop where
  fit : Fit S o
  t1 : 2 ≤ t
  t2 : t ≤ 16
structure First (S : St) (e : It) : Prop where
  blobs : Blobs S e
  ne : e.kh ≠ e.vh
def leafOf (r : Nat) (e : It) : Bt 1 := (⟨r, [e], []⟩ : Bn (Bt 0))
theorem first_tree {S : St} {o : Nat → Nat} {t : Nat} (h : Empty S o t) {e : It} (n : First S e) {r : Nat} {ws : List Nat} (hw : reco S r = some ws) (hl : ws.length = 6 * t) (hk : r ≠ e.kh) (hv : r ≠ e.vh) :
    Ok t (leafOf r e) ∧ BnLt (bn (leafOf r e)) ∧ Tree (putWords S r 0 (bnWords t (bn (leafOf r e)))) o t (leafOf r e) ∧ (∀ z, z ≠ r → reco (putWords S r 0 (bnWords t (bn (leafOf r e)))) z = reco S z) ∧ Grew S (putWords S r 0 (bnWords t (bn (leafOf r e)))) 0 0 := by
  have t1 := h.t1
  have ok : Ok t (leafOf r e) := ⟨by show 1 ≤ 2 * t - 1; omega, rfl, fun k hk => by have hk : k ∈ ([] : List (Bt 0)) := hk; simp at hk⟩
  have hkids : ∀ k ∈ Bn.ks (leafOf r e), At S t k := fun k hk => by have hk : k ∈ ([] : List (Bt 0)) := hk; simp at hk
  have hits : its (leafOf r e) = [e] := its_leaf _
  have hb := blobs_lt h.fit n.blobs
  have hbl : BnLt (bn (leafOf r e)) := bnLt_of h.fit (fun a ha => by
    have ha : a ∈ [e] := ha
    rw [List.mem_singleton.1 ha]; exact hb) hkids (by rw [hits]; show 1 < _; omega)
  obtain ⟨p1, p2, p3, p4⟩ := put_node (x := leafOf r e) h.fit hkids (fun k hk => by have hk : k ∈ ([] : List (Bt 0)) := hk; simp at hk) (ws := ws) hw hl hbl (by show 1 < 1000; omega)
  have p3 : ∀ z, z ≠ r → reco (putWords S r 0 (bnWords t (bn (leafOf r e)))) z = reco S z := p3
  have hnod : Bt.nodes (leafOf r e) = [r] := by rw [nodes_mk]; rfl
  refine ⟨ok, hbl, ⟨p1, h.t1, h.t2, p2, ok, by rw [hits]; exact List.pairwise_singleton _ _, ?_, by rw [hits]; show 1 < _; omega, by rw [hnod]; simp, ?_, ?_, Nat.le_refl 1⟩, p3, p4⟩
  · rw [hits]
    intro a ha
    rw [List.mem_singleton.1 ha]
    exact n.blobs.frame (p3 _ (Ne.symm hk)) (p3 _ (Ne.symm hv))
  · rw [hits]
    show [e.kh, e.vh].Nodup
    simp [n.ne]
  · rw [hits, hnod]
    intro z hz hm
    rw [List.mem_singleton.1 hz] at hm
    have hm : r ∈ [e.kh, e.vh] := hm
    simp at hm
    exact hm.elim hk hv
end Bt
theorem two_alloc (w : World) (o1 o2 : Obj) : Below w.heap.size w (w.drew.alloc o1) ∧ Below w.heap.size w ((w.drew.alloc o1).alloc o2) ∧ ((w.drew.alloc o1).alloc o2).heap[w.heap.size]? = some o1 ∧ ((w.drew.alloc o1).alloc o2).heap[w.heap.size + 1]? = some o2 := by
  have z1 : (w.drew.alloc o1).heap.size = w.heap.size + 1 := by simp
  have b1 := ((Below.refl w.heap.size w).drew).alloc (Nat.le_refl _) o1
  have c2 := (Below.refl (w.drew.alloc o1).heap.size (w.drew.alloc o1)).alloc (Nat.le_refl _) o2
  have q1 := heap_alloc_new w.drew o1
  have q2 := heap_alloc_new (w.drew.alloc o1) o2
  have r1 := (c2.block w.heap.size (by omega)).trans q1
  rw [z1] at q2
  exact ⟨b1, b1.trans (c2.mono (by rw [z1]; omega)), r1, q2⟩
theorem bt_insert_first {w : World} {ps : Nat} {S : St} {o : Nat → Nat} {Y : Nat → Prop} (h : StOn w ps S Y) {t : Nat} (hx : Bt.Empty S o t) {e : It} (hn : Bt.First S e) (hr : Space S (2 * 1) 1) :
    Calls Tryz.prog 144 #[PV ps, .int .i64 t, .int .u64 0, itV e.kh e.vh] w fun en w' => ∃ (y : Bt 1) (S' : St) (o' : Nat → Nat), en = .returned (.tuple #[.int .u64 (Bt.hd y : Nat), itV 0 0, .bool false, .int .i64 0]) ∧ StOn w' ps S' Y ∧ Keep Y w w' ∧ Bt.Tree S' o' t y ∧ Bt.its y = [e] ∧ (∀ z ∈ Bt.nodes y, reco S z = none) ∧ (∀ z, reco S z ≠ none → reco S' z = reco S z) ∧ Grew S S' 2 1 := by
  have B0 := ((Below.refl w.heap.size w).alloc (Nat.le_refl _) (.cells #[.int .u64 e.kh, .int .u64 e.vh] 105)).alloc (by simp) (.cells #[.int .u64 0, .int .u64 0] 105)
  have z1 : (w.alloc (.cells #[.int .u64 e.kh, .int .u64 e.vh] 105)).heap.size = w.heap.size + 1 := by simp
  have q1 := heap_alloc_new w (.cells #[.int .u64 e.kh, .int .u64 e.vh] 105)
  have q2 := heap_alloc_new (w.alloc (.cells #[.int .u64 e.kh, .int .u64 e.vh] 105)) (.cells #[.int .u64 0, .int .u64 0] 105)
  have q1 := (((Below.refl (w.alloc (.cells #[.int .u64 e.kh, .int .u64 e.vh] 105)).heap.size (w.alloc (.cells #[.int .u64 e.kh, .int .u64 e.vh] 105))).alloc (Nat.le_refl _) (.cells #[.int .u64 0, .int .u64 0] 105)).block w.heap.size (by simp)).trans q1
  rw [z1] at q2
  have hz : ((w.alloc (.cells #[.int .u64 e.kh, .int .u64 e.vh] 105)).alloc (.cells #[.int .u64 0, .int .u64 0] 105)).heap.size = w.heap.size + 2 := by simp
  generalize hW : (w.alloc (.cells #[.int .u64 e.kh, .int .u64 e.vh] 105)).alloc (.cells #[.int .u64 0, .int .u64 0] 105) = W0 at *
  have A1 := (Below.refl W0.heap.size W0).alloc (Nat.le_refl _) (.cells #[PV ps, .int .i64 t] 221)
  have q3 := heap_alloc_new W0 (.cells #[PV ps, .int .i64 t] 221)
  have hz1 : (W0.alloc (.cells #[PV ps, .int .i64 t] 221)).heap.size = w.heap.size + 3 := by simp [hz]
  have hi := hx.fit.inv
  have hw := hi
  have hl0 : S.len 0 = (0, 7) := len_zero S
  have has := bt_asked (h.below B0) hi hx.t1 hx.t2
  obtain ⟨W1, hW1⟩ : ∃ W1, W0.alloc (.cells #[PV ps, .int .i64 t] 221) = W1 := ⟨_, rfl⟩
  rw [hW1] at A1 q3 hz1
  have B1 := B0.trans (A1.mono (by omega))
  rw [hz] at q3
  have hkb := getBlob_look hx.fit hn.blobs.lk hn.blobs.k
  have hbg := blob_get (h.below B1) hi e.kh (Bt.blobs_lt hx.fit hn.blobs).1 (by rw [hkb]; simp)
  rw [hkb] at hbg
  have q1 := (A1.block _ (by omega)).trans q1
  have q2 := (A1.block _ (by omega)).trans q2
  have x0 : (W1).cell? ⟨w.heap.size, 0, none⟩ = some (.int .u64 e.kh) := by rw [cell_of_block q1]; rfl
  have x1 : (W1).cell? ⟨w.heap.size, 1, none⟩ = some (.int .u64 e.vh) := by rw [cell_of_block q1]; rfl
  have H0 := Lib.hid (And.intro h (And.intro hx (And.intro hn (And.intro hr (And.intro hw (And.intro hi hz1))))))
  have H1 := Lib.hid (And.intro B1 (And.intro q1 (And.intro q2 q3)))
  have HAS := Lib.hid has
  have HBG := Lib.hid hbg
  clear z1 q1 q2 q3 B0 B1 A1 hw hi has hkb hbg h hx hn hr
  unfold itV
  go_enter Tryz.func144, Tryz.ntmps144
  go_wp2_with fail
  refine HAS.out.mono ?_
  rintro en w1 ⟨rfl, rfl⟩
  clear hW
  go_wp2_with fail
  refine HBG.out.mono ?_
  rintro en w2 ⟨rfl, hb2⟩
  clear x0 x1
  have p1 := (hb2.block _ (by have := H0.out.2.2.2.2.2.2; omega)).trans H1.out.2.1
  have p2 := (hb2.block _ (by have := H0.out.2.2.2.2.2.2; omega)).trans H1.out.2.2.1
  have p3 := (hb2.block _ (by have := H0.out.2.2.2.2.2.2; omega)).trans H1.out.2.2.2
  have b2 := H1.out.1.trans (hb2.mono H1.out.1.size)
  have x0 : (w2).cell? ⟨w.heap.size + 2, 0, none⟩ = some (PV ps) := by rw [cell_of_block p3]; rfl
  have x1 : (w2).cell? ⟨w.heap.size + 2, 1, none⟩ = some (.int .i64 t) := by rw [cell_of_block p3]; rfl
  have hget := bt_get0 (H0.out.1.below b2) H0.out.2.2.2.2.2.1 H0.out.2.1.t1 H0.out.2.1.t2 0 (by omega) hl0
  have hs2 : w.heap.size + 3 ≤ w2.heap.size := by have := hb2.size; have := H0.out.2.2.2.2.2.2; omega
  unfold trB bnV at hget
  have HGT := Lib.hid hget
  have H2 := Lib.hid (And.intro b2 (And.intro p1 (And.intro p2 p3)))
  clear hb2 p1 p2 p3 b2 hget HBG HAS H1 hW1
  go_wp2_with fail
  refine HGT.out.mono ?_
  rintro en w3 ⟨rfl, hb3⟩
  go_wp2_with fail
  have A3 := (Below.refl w3.heap.size w3).alloc (Nat.le_refl _) (.cells #[.slice none 0 0, .slice none 0 0, .slice none 0 0, .int .u64 0] 267)
  obtain ⟨W3, hW3⟩ : ∃ W3, w3.alloc (.cells #[.slice none 0 0, .slice none 0 0, .slice none 0 0, .int .u64 0] 267) = W3 := ⟨_, rfl⟩
  rw [hW3] at A3
  rw [hW3]
  clear hW3
  have c3 := hb3.trans (A3.mono hb3.size)
  have p1 := (c3.block _ (by omega)).trans H2.out.2.1
  have p2 := (c3.block _ (by omega)).trans H2.out.2.2.1
  have p3 := (c3.block _ (by omega)).trans H2.out.2.2.2
  have B3 := H2.out.1.trans (c3.mono H2.out.1.size)
  have hs3 : w.heap.size + 3 ≤ W3.heap.size := by have := c3.size; omega
  have hdn := fun W (hw : Below W3.heap.size W3 W) => bt_down0 (H0.out.1.below (B3.trans (hw.mono B3.size))) H0.out.2.2.2.2.2.1 H0.out.2.1.t1 H0.out.2.1.t2 0 (by omega) hl0 e.k
  have hfd := btree_find (R := none) (hdn W3 (Below.refl _ _)) fun W hW => hdn W (by rw [hW]; exact (Below.refl _ _).alloc (Nat.le_refl _) _)
  unfold itO itV at hfd
  dsimp only [Option.isSome] at hfd
  have HFD := Lib.hid hfd
  have H3 := Lib.hid (And.intro B3 (And.intro p1 (And.intro p2 p3)))
  clear A3 c3 p1 p2 p3 B3 hdn hfd x0 x1 hb3 H2 HGT
  refine HFD.out.mono ?_
  rintro en w4 ⟨rfl, hb4⟩
  go_wp2_with fail
  have A4 := (Below.refl w4.heap.size w4).alloc (Nat.le_refl _) (.cells #[.int .u64 0, .int .u64 0] 105)
  obtain ⟨W4, hW4⟩ : ∃ W4, w4.alloc (.cells #[.int .u64 0, .int .u64 0] 105) = W4 := ⟨_, rfl⟩
  rw [hW4] at A4
  rw [hW4]
  clear hW4
  have c4 := hb4.trans (A4.mono hb4.size)
  have p1 := (c4.block _ (by omega)).trans H3.out.2.1
  have p2 := (c4.block _ (by omega)).trans H3.out.2.2.1
  have p3 := (c4.block _ (by omega)).trans H3.out.2.2.2
  have B4 := H3.out.1.trans (c4.mono H3.out.1.size)
  have hs4 : w.heap.size + 3 ≤ W4.heap.size := by have := c4.size; omega
  have st4 := H0.out.1.wide B4
  have HND := fun W (_ : Below W4.heap.size W4 W) => bt_need0 W ps t e.k
  have HMK := fun W (hw : Below W4.heap.size W4 W) => bt_maker (st4.below hw) H0.out.2.1.fit H0.out.2.1.t1 H0.out.2.1.t2 1 (by omega) H0.out.2.2.2.1
  unfold trB at HND HMK
  have HND := Lib.hid HND
  have HMK := Lib.hid HMK
  have H4 := Lib.hid (And.intro B4 (And.intro p1 (And.intro p2 (And.intro p3 st4))))
  clear A4 c4 p1 p2 p3 B4 st4 hb4 H3 HFD
  obtain ⟨I, hIi, hIo⟩ : ∃ I : World → Prop, (∀ w', I w' → w'.heap[w.heap.size + 2]? = W4.heap[w.heap.size + 2]?) ∧ (∀ w', w'.heap[w.heap.size + 2]? = W4.heap[w.heap.size + 2]? → I w') := ⟨fun w' => w'.heap[w.heap.size + 2]? = W4.heap[w.heap.size + 2]?, fun _ h => h, fun _ h => h⟩
  have hz1 := fun x : Keeps I => (hIi _ x.ok).trans H4.out.2.2.2.1
  have r0 : ∀ x : Keeps I, x.to.cell? ⟨w.heap.size + 2, 0, none⟩ = some (PV ps) := fun x => by rw [cell_of_block (hz1 x)]; rfl
  have r1 : ∀ x : Keeps I, x.to.cell? ⟨w.heap.size + 2, 1, none⟩ = some (.int .i64 t) := fun x => by rw [cell_of_block (hz1 x)]; rfl
  have hI0 : I W4.drew := hIo _ rfl
  have HIo := Lib.hid hIo
  clear hIi hIo hz1
  refine wp_region_plan I (.take 0 (.take 1 (.take 2 (.take 3 (.go 4 (.go 5 (.take 6 (.take 7 (.take 8 (.go 9 (.go 10 .nil))))))))))) (by kernel_rfl) (by kernel_rfl) hI0 ?_
  refine' plan_take _ (by rfl) _ (by rfl) ?_ ?_
  rotate_left
  · rintro _ ⟨x, rfl⟩
    have hxr0 := r0 x
    have hxr1 := r1 x
    go_simp
    try with_reducible rfl
  try simp only [Act.put, List.setIfInBounds_toArray, List.set_cons_zero, List.set_cons_succ]
  refine' plan_take _ (by rfl) _ (by rfl) ?_ ?_
  rotate_left
  · rintro _ ⟨x, rfl⟩
    have hxr0 := r0 x
    have hxr1 := r1 x
    go_simp
    try with_reducible rfl
  try simp only [Act.put, List.setIfInBounds_toArray, List.set_cons_zero, List.set_cons_succ]
  refine' plan_take _ (by rfl) _ (by rfl) ?_ ?_
  rotate_left
  · rintro _ ⟨x, rfl⟩
    have hxr0 := r0 x
    have hxr1 := r1 x
    go_simp
    try with_reducible rfl
  try simp only [Act.put, List.setIfInBounds_toArray, List.set_cons_zero, List.set_cons_succ]
  refine' plan_take _ (by rfl) _ (by rfl) ?_ ?_
  rotate_left
  · rintro _ ⟨x, rfl⟩
    have hxr0 := r0 x
    have hxr1 := r1 x
    go_simp
    try with_reducible rfl
  try simp only [Act.put, List.setIfInBounds_toArray, List.set_cons_zero, List.set_cons_succ]
  refine plan_do _ (by rfl) (by rfl) (fun K hK => ?_)
  go_simp
  refine (HND.out _ (Below.refl _ W4).drew).mono ?_
  rintro en w5 ⟨rfl, hb5⟩
  have hI5 : I w5 := HIo.out _ (hb5.block _ hs4)
  have B5 := (Below.refl W4.heap.size W4).drew.trans hb5
  have HB5 := Lib.hid B5
  clear hb5 B5
  try go_simp
  refine hK.out _ _ (hI5) ?_
  clear hK K
  try simp only [Act.put, List.setIfInBounds_toArray, List.set_cons_zero, List.set_cons_succ]
  refine plan_do _ (by rfl) (by rfl) (fun K hK => ?_)
  go_simp
  refine (HMK.out _ HB5.out).mono ?_
  rintro en w6 ⟨rfl, S1, o1, v6, L, st6, kp6, sp6, f6, hL6, spa6, hn6, hfr6, hg6⟩
  have hI6 : I w6 := HIo.out _ ((kp6.block _ (Or.inr ⟨by omega, by omega⟩)).trans (HB5.out.block _ hs4))
  have H6 := Lib.hid (And.intro st6 (And.intro kp6 (And.intro sp6 (And.intro f6 (And.intro hL6 (And.intro spa6 (And.intro hn6 (And.intro hfr6 hg6))))))))
  clear st6 kp6 sp6 f6 hL6 spa6 hn6 hfr6 hg6
  try go_simp
  refine hK.out _ _ (hI6) ?_
  clear hK K
  try simp only [Act.put, List.setIfInBounds_toArray, List.set_cons_zero, List.set_cons_succ]
  refine' plan_take _ (by rfl) _ (by rfl) ?_ ?_
  rotate_left
  · rintro _ ⟨x, rfl⟩
    go_simp
    try with_reducible rfl
  try simp only [Act.put, List.setIfInBounds_toArray, List.set_cons_zero, List.set_cons_succ]
  refine' plan_take _ (by rfl) _ (by rfl) ?_ ?_
  rotate_left
  · rintro _ ⟨x, rfl⟩
    go_simp
    try with_reducible rfl
  try simp only [Act.put, List.setIfInBounds_toArray, List.set_cons_zero, List.set_cons_succ]
  refine' plan_take _ (by rfl) _ (by rfl) ?_ ?_
  rotate_left
  · rintro _ ⟨x, rfl⟩
    go_simp
    try with_reducible rfl
  try simp only [Act.put, List.setIfInBounds_toArray, List.set_cons_zero, List.set_cons_succ]
  refine plan_do _ (by rfl) (by rfl) (fun K hK => ?_)
  go_simp
  try go_simp
  refine hK.out _ _ (hI6) ?_
  clear hK K
  try simp only [Act.put, List.setIfInBounds_toArray, List.set_cons_zero, List.set_cons_succ]
  refine plan_do _ (by rfl) (by rfl) (fun K hK => ?_)
  go_simp
  try go_simp
  refine hK.out _ _ (hI6) ?_
  clear hK K
  try simp only [Act.put, List.setIfInBounds_toArray, List.set_cons_zero, List.set_cons_succ]
  refine plan_nil ?_
  have k6 : ∀ k, w.heap.size ≤ k → k < W4.heap.size → w6.heap[k]? = W4.heap[k]? := fun k h1 h2 => (H6.out.2.1.block k (Or.inr ⟨h1, h2⟩)).trans (HB5.out.block k h2)
  have p1 := (k6 w.heap.size (by omega) (by omega)).trans H4.out.2.1
  have p2 := (k6 (w.heap.size + 1) (by omega) (by omega)).trans H4.out.2.2.1
  have hyl := H0.out.1.yl
  have hs5 := HB5.out.size
  have hs6 := H6.out.2.1.size
  have kY : Keep Y w w6 := ((Keep.of_below H4.out.1 hyl).trans (Keep.of_below HB5.out fun k hk => by have := hyl k hk; omega)).trans (H6.out.2.1.mono fun k hk => Or.inl hk)
  have hL1 := H6.out.2.2.2.2.1
  obtain ⟨rr, hrr⟩ : ∃ rr, L = [] ++ [rr] := by
    cases L with
    | nil => simp at hL1
    | cons a l =>
      cases l with
      | nil => exact ⟨a, rfl⟩
      | cons b l => simp at hL1
  subst hrr
  obtain ⟨ws, hws1, hws2⟩ := H6.out.2.2.2.2.2.1.recs rr (by simp)
  have hrn := H6.out.2.2.2.2.2.2.1 rr (by simp)
  have hne1 : rr ≠ e.kh := fun q => by have := H0.out.2.2.1.blobs.k; rw [← q, hrn] at this; cases this
  have hne2 : rr ≠ e.vh := fun q => by have := H0.out.2.2.1.blobs.v; rw [← q, hrn] at this; cases this
  have hfr6 : ∀ z, z ≠ rr → reco S1 z = reco S z := fun z hz => H6.out.2.2.2.2.2.2.2.1 z (by simpa using hz)
  have hemp : Bt.Empty S1 o1 t := ⟨H6.out.2.2.2.1, H0.out.2.1.t1, H0.out.2.1.t2⟩
  have hfst : Bt.First S1 e := ⟨H0.out.2.2.1.blobs.frame (hfr6 _ (Ne.symm hne1)) (hfr6 _ (Ne.symm hne2)), H0.out.2.2.1.ne⟩
  obtain ⟨ok, hbl, htree, hfr7, hgr7⟩ := Bt.first_tree hemp hfst hws1 hws2 hne1 hne2
  have hA : ∀ (W : World) (b1 b2 : Nat), Below w6.heap.size w6 W → w6.heap.size ≤ b1 → w6.heap.size ≤ b2 → W.heap[b1]? = some (.cells #[.int .u64 e.kh] 43 (0, 0)) → W.heap[b2]? = some (.cells #[.int .u64 e.vh] 43 (0, 0)) →
      Calls Tryz.prog 229 #[.agg #[.slice (some ⟨b1, 0, none⟩) 1 1, .slice (some ⟨b2, 0, none⟩) 1 1, .slice none 0 0, .int .u64 1], PV (w5.heap.size + 1), PV w5.heap.size] W fun en w' => en = .returned (.int .u64 rr) ∧ ∃ v', StOn w' ps (putWords S1 rr 0 (bnWords t (Bt.bn (Bt.leafOf rr e)))) (fun k => (Y k ∨ (w.heap.size ≤ k ∧ k < W4.heap.size)) ∨ SpY w5.heap.size (w5.heap.size + 1) v6 k) ∧ Keep (fun k => ((Y k ∨ (w.heap.size ≤ k ∧ k < W4.heap.size)) ∨ SpY w5.heap.size (w5.heap.size + 1) v6 k) ∧ k ≠ w5.heap.size + 1) W w' ∧ SpOn w' w5.heap.size (w5.heap.size + 1) (w5.heap.size + 2) ps t v' [] ∧ v'.ownBlock = v6.ownBlock := by
    intro W b1 b2 hB g1 g2 e1 e2
    have hz7 : w5.heap.size + 2 ≤ w6.heap.size := by
      have h1 := (Array.getElem?_eq_some_iff.1 H6.out.2.2.1.box).1
      omega
    have hro : ∀ (b k : Nat), W.heap[b]? = some (.cells #[.int .u64 k] 43 (0, 0)) → HRow W (.slice (some ⟨b, 0, none⟩) 1 1) [k] := fun b k hb => ⟨_, 1, rfl, fun i hi => ⟨b, 0, rfl, by
      have hi : i = 0 := by simp at hi; exact hi
      subst hi
      rw [cell_of_block hb]; rfl⟩⟩
    have hro2 : HRow W (.slice none 0 0) [] := ⟨none, 0, rfl, fun i hi => absurd hi (by simp)⟩
    have hlen : S1.len rr = (6 * t, 0) := by rw [look_len H6.out.2.2.2.1.tab hws1, hws2]
    have hob : ∀ {b n c : Nat}, w6.heap.size ≤ b → ∀ g, (Value.slice (some ⟨b, 0, none⟩) n c).ownBlock = some g → g ≠ w5.heap.size + 1 := fun hb g hg q => by
      have hg := Option.some.inj hg
      simp only at hg
      omega
    have htk := bt_take (n := Bt.bn (Bt.leafOf rr e)) (vk := .slice (some ⟨b1, 0, none⟩) 1 1) (vv := .slice (some ⟨b2, 0, none⟩) 1 1) (vc := .slice none 0 0) (H6.out.1.below hB) H6.out.2.2.2.1.inv (H6.out.2.2.1.keeps fun k hk => hB.block k (H6.out.1.yl k (Or.inr hk))) (Or.inr (Or.inr (Or.inl rfl))) (Or.inr (Or.inl rfl)) (fun b hb => Or.inr (Or.inr (Or.inr hb))) (by simp) (Bt.bnok_of H6.out.2.2.2.1 H0.out.2.1.t1 H0.out.2.1.t2 (fun k hk => by have hk : k ∈ ([] : List (Bt 0)) := hk; simp at hk) ok) (hro b1 _ e1) (hro b2 _ e2) hro2 (hob g1) (hob g2) (fun g hg => nomatch hg) (look_ok H6.out.2.2.2.1 hws1).2.1 hlen (bnWords_lt (t := t) hbl (by show 1 < _; omega))
    unfold bnV at htk
    exact htk
  have hFN : Bt.Tree (putWords S1 rr 0 (bnWords t (Bt.bn (Bt.leafOf rr e)))) o1 t (Bt.leafOf rr e) ∧ Bt.its (Bt.leafOf rr e) = [e] ∧ (∀ z ∈ Bt.nodes (Bt.leafOf rr e), reco S z = none) ∧ (∀ z, reco S z ≠ none → reco (putWords S1 rr 0 (bnWords t (Bt.bn (Bt.leafOf rr e)))) z = reco S z) ∧ Grew S (putWords S1 rr 0 (bnWords t (Bt.bn (Bt.leafOf rr e)))) 2 1 := by
    refine ⟨htree, Bt.its_leaf _, fun z hz => ?_, fun z hz => ?_, (H6.out.2.2.2.2.2.2.2.2.trans hgr7).mono (by omega) (by omega)⟩
    · have hz : z ∈ [rr] := hz
      rw [List.mem_singleton.1 hz]; exact hrn
    · have hzr : z ≠ rr := fun q => hz (q ▸ hrn)
      exact (hfr7 z hzr).trans (hfr6 z hzr)
  have HA := Lib.hid hA
  have HFN := Lib.hid hFN
  have hp2 := (Array.getElem?_eq_some_iff.1 p2).1
  have HK := Lib.hid (And.intro kY (And.intro p2 (And.intro p1 hyl)))
  have x0 : (w6).cell? ⟨w.heap.size, 0, none⟩ = some (.int .u64 e.kh) := by rw [cell_of_block p1]; rfl
  have x1 : (w6).cell? ⟨w.heap.size, 1, none⟩ = some (.int .u64 e.vh) := by rw [cell_of_block p1]; rfl
  clear hL1 hws1 hws2 hrn hne1 hne2 hfr6 hemp hfst ok hbl htree hfr7 hgr7 hA hFN kY p1 p2 k6 hyl r0 r1 HND HMK HIo hI0 hI5 hI6
  go_wp2_with fail
  obtain ⟨I, hIi, hIo⟩ : ∃ I : World → Prop, (∀ w', I w' → w'.heap[w.heap.size]? = some (.cells #[.int .u64 e.kh, .int .u64 e.vh] 105 (0, 0)) ∧ w'.heap[w.heap.size + 1]? = some (.cells #[.int .u64 0, .int .u64 0] 105 (0, 0))) ∧ (∀ w', (w'.heap[w.heap.size]? = some (.cells #[.int .u64 e.kh, .int .u64 e.vh] 105 (0, 0)) ∧ w'.heap[w.heap.size + 1]? = some (.cells #[.int .u64 0, .int .u64 0] 105 (0, 0))) → I w') := ⟨fun w' => w'.heap[w.heap.size]? = some (.cells #[.int .u64 e.kh, .int .u64 e.vh] 105 (0, 0)) ∧ w'.heap[w.heap.size + 1]? = some (.cells #[.int .u64 0, .int .u64 0] 105 (0, 0)), fun _ h => h, fun _ h => h⟩
  have hz3 := fun x : Keeps I => (hIi _ x.ok).1
  have hz4' := fun x : Keeps I => (hIi _ x.ok).2
  have s0 : ∀ x : Keeps I, x.to.cell? ⟨w.heap.size, 0, none⟩ = some (.int .u64 e.kh) := fun x => by rw [cell_of_block (hz3 x)]; rfl
  have s1 : ∀ x : Keeps I, x.to.cell? ⟨w.heap.size, 1, none⟩ = some (.int .u64 e.vh) := fun x => by rw [cell_of_block (hz3 x)]; rfl
  have r0 : ∀ x : Keeps I, x.to.cell? ⟨w.heap.size + 1, 0, none⟩ = some (.int .u64 0) := fun x => by rw [cell_of_block (hz4' x)]; rfl
  have r1 : ∀ x : Keeps I, x.to.cell? ⟨w.heap.size + 1, 1, none⟩ = some (.int .u64 0) := fun x => by rw [cell_of_block (hz4' x)]; rfl
  have hJ : ∀ W, Below w6.heap.size w6 W → I W := fun W hB => hIo _ ⟨(hB.block _ (by omega)).trans HK.out.2.2.1, (hB.block _ (by omega)).trans HK.out.2.1⟩
  have hI0 : I w6.drew := hJ _ (Below.refl _ w6).drew
  have hJ2 : ∀ W w', Below w6.heap.size w6 W → Keep (fun k => ((Y k ∨ (w.heap.size ≤ k ∧ k < W4.heap.size)) ∨ SpY w5.heap.size (w5.heap.size + 1) v6 k) ∧ k ≠ w5.heap.size + 1) W w' → I w' := fun W w' hB hk => by
    have h1 := hIi _ (hJ W hB)
    exact hIo _ ⟨(hk.block _ ⟨Or.inl (Or.inr ⟨by omega, by omega⟩), by omega⟩).trans h1.1, (hk.block _ ⟨Or.inl (Or.inr ⟨by omega, by omega⟩), by omega⟩).trans h1.2⟩
  have hJ3 : ∀ w', I w' → I ((w'.setCell ⟨w.heap.size + 1, 0, none⟩ (.int .u64 0)).setCell ⟨w.heap.size + 1, 1, none⟩ (.int .u64 0)) := fun w' hi => hIo _ ⟨((heap_setCell_ne (by omega)).trans (heap_setCell_ne (by omega))).trans (hIi _ hi).1, heap_setCell (i := 1) (v := .int .u64 0) (heap_setCell (i := 0) (v := .int .u64 0) (hIi _ hi).2)⟩
  have HJ := Lib.hid hJ
  have HJI := Lib.hid hIi
  clear hz3 hz4' hIi hIo x0 x1
  refine wp_region_plan I (.take 0 (.take 1 (.take 2 (.take 4 (.take 5 (.take 9 (.two 3 6 (.go 6 (.take 7 (.go 8 (.go 10 (.go 11 (.go 12 (.go 13 .nil))))))) (.go 3 (.take 7 (.go 8 (.go 10 (.go 11 (.go 12 (.go 13 .nil)))))))))))))) (by kernel_rfl) (by kernel_rfl) hI0 ?_
  refine' plan_take _ (by rfl) _ (by rfl) ?_ ?_
  rotate_left
  · rintro _ ⟨x, rfl⟩
    have hxs0 := s0 x
    have hxs1 := s1 x
    have hxr0 := r0 x
    have hxr1 := r1 x
    go_simp
    try with_reducible rfl
  try simp only [Act.put, List.setIfInBounds_toArray, List.set_cons_zero, List.set_cons_succ]
  refine' plan_take _ (by rfl) _ (by rfl) ?_ ?_
  rotate_left
  · rintro _ ⟨x, rfl⟩
    have hxs0 := s0 x
    have hxs1 := s1 x
    have hxr0 := r0 x
    have hxr1 := r1 x
    go_simp
    try with_reducible rfl
  try simp only [Act.put, List.setIfInBounds_toArray, List.set_cons_zero, List.set_cons_succ]
  refine' plan_take _ (by rfl) _ (by rfl) ?_ ?_
  rotate_left
  · rintro _ ⟨x, rfl⟩
    have hxs0 := s0 x
    have hxs1 := s1 x
    have hxr0 := r0 x
    have hxr1 := r1 x
    go_simp
    try with_reducible rfl
  try simp only [Act.put, List.setIfInBounds_toArray, List.set_cons_zero, List.set_cons_succ]
  refine' plan_take _ (by rfl) _ (by rfl) ?_ ?_
  rotate_left
  · rintro _ ⟨x, rfl⟩
    have hxs0 := s0 x
    have hxs1 := s1 x
    have hxr0 := r0 x
    have hxr1 := r1 x
    go_simp
    try with_reducible rfl
  try simp only [Act.put, List.setIfInBounds_toArray, List.set_cons_zero, List.set_cons_succ]
  refine' plan_take _ (by rfl) _ (by rfl) ?_ ?_
  rotate_left
  · rintro _ ⟨x, rfl⟩
    have hxs0 := s0 x
    have hxs1 := s1 x
    have hxr0 := r0 x
    have hxr1 := r1 x
    go_simp
    try with_reducible rfl
  try simp only [Act.put, List.setIfInBounds_toArray, List.set_cons_zero, List.set_cons_succ]
  refine' plan_take _ (by rfl) _ (by rfl) ?_ ?_
  rotate_left
  · rintro _ ⟨x, rfl⟩
    have hxs0 := s0 x
    have hxs1 := s1 x
    have hxr0 := r0 x
    have hxr1 := r1 x
    go_simp
    try with_reducible rfl
  try simp only [Act.put, List.setIfInBounds_toArray, List.set_cons_zero, List.set_cons_succ]
  clear s0 s1 r0 r1
  refine plan_two ?_ ?_
  · have T4 := two_alloc w6 (.cells #[.int .u64 (e.kh : Nat)] 43) (.cells #[.int .u64 (e.vh : Nat)] 43)
    refine plan_do _ (by rfl) (by rfl) (fun K hK => ?_)
    go_simp
    try go_simp
    refine hK.out _ _ (HJ.out _ T4.1) ?_
    clear hK K
    try simp only [Act.put, List.setIfInBounds_toArray, List.set_cons_zero, List.set_cons_succ]
    refine plan_do _ (by rfl) (by rfl) (fun K hK => ?_)
    go_simp
    try go_simp
    refine hK.out _ _ (HJ.out _ T4.2.1) ?_
    clear hK K
    try simp only [Act.put, List.setIfInBounds_toArray, List.set_cons_zero, List.set_cons_succ]
    refine' plan_take _ (by rfl) _ (by rfl) ?_ ?_
    rotate_left
    · rintro _ ⟨x, rfl⟩
      go_simp
      try with_reducible rfl
    try simp only [Act.put, List.setIfInBounds_toArray, List.set_cons_zero, List.set_cons_succ]
    refine plan_do _ (by rfl) (by rfl) (fun K hK => ?_)
    go_simp
    refine (HA.out _ w6.heap.size (w6.heap.size + 1) T4.2.1 (by omega) (by omega) T4.2.2.1 T4.2.2.2).mono ?_
    rintro en w11 ⟨rfl, v11, st11, kp11, sp11, own11⟩
    have hI11 : I w11 := hJ2 _ _ T4.2.1 kp11
    have hold := (HJI.out _ hI11).2
    have kF : Keep Y w w11 := (HK.out.1.trans (Keep.of_below T4.2.1 fun k hk => by have := HK.out.2.2.2 k hk; omega)).trans (kp11.mono fun k hk => ⟨Or.inl (Or.inl hk), by have := HK.out.2.2.2 k hk; omega⟩)
    have x0 : (w11).cell? ⟨w.heap.size + 1, 0, none⟩ = some (.int .u64 0) := by rw [cell_of_block hold]; rfl
    have x1 : (w11).cell? ⟨w.heap.size + 1, 1, none⟩ = some (.int .u64 0) := by rw [cell_of_block hold]; rfl
    have f0 : (w11).frozen? ⟨w.heap.size + 1, 0, none⟩ = false := frozen_of_block hold
    have f1 : (w11).frozen? ⟨w.heap.size + 1, 1, none⟩ = false := frozen_of_block hold
    have H11 := Lib.hid (And.intro hold (And.intro st11 kF))
    clear kp11 sp11 own11 hold st11 kF T4
    try go_simp
    refine hK.out _ _ (hI11) ?_
    clear hK K
    try simp only [Act.put, List.setIfInBounds_toArray, List.set_cons_zero, List.set_cons_succ]
    refine plan_do _ (by rfl) (by rfl) (fun K hK => ?_)
    go_simp
    try go_simp
    refine hK.out _ _ (hI11) ?_
    clear hK K
    try simp only [Act.put, List.setIfInBounds_toArray, List.set_cons_zero, List.set_cons_succ]
    refine plan_do _ (by rfl) (by rfl) (fun K hK => ?_)
    go_simp
    try go_simp
    refine hK.out _ _ (hJ3 _ hI11) ?_
    clear hK K
    try simp only [Act.put, List.setIfInBounds_toArray, List.set_cons_zero, List.set_cons_succ]
    refine plan_do _ (by rfl) (by rfl) (fun K hK => ?_)
    go_simp
    try go_simp
    refine hK.out _ _ (hJ3 _ hI11) ?_
    clear hK K
    try simp only [Act.put, List.setIfInBounds_toArray, List.set_cons_zero, List.set_cons_succ]
    refine plan_do _ (by rfl) (by rfl) (fun K hK => ?_)
    go_simp
    try go_simp
    refine hK.out _ _ (hJ3 _ hI11) ?_
    clear hK K
    try simp only [Act.put, List.setIfInBounds_toArray, List.set_cons_zero, List.set_cons_succ]
    refine plan_nil ?_
    go_wp2_with fail
    obtain ⟨WF, hWF⟩ : ∃ WF, ((w11.setCell ⟨w.heap.size + 1, 0, none⟩ (.int .u64 0)).setCell ⟨w.heap.size + 1, 1, none⟩ (.int .u64 0)) = WF := ⟨_, rfl⟩
    rw [hWF]
    have eF : WF.heap[w.heap.size + 1]? = some (.cells #[.int .u64 0, .int .u64 0] 105 (0, 0)) := by
      rw [← hWF]
      exact heap_setCell (i := 1) (v := .int .u64 0) (heap_setCell (i := 0) (v := .int .u64 0) H11.out.1)
    have stF : StOn WF ps (putWords S1 rr 0 (bnWords t (Bt.bn (Bt.leafOf rr e)))) Y := by
      rw [← hWF]
      exact (H11.out.2.1.write (b := w.heap.size + 1) (Or.inl (Or.inr ⟨by omega, by omega⟩)) H11.out.1 ⟨by decide, by decide⟩ (by simp) (by simp) fun k _ hk => (heap_setCell_ne hk).trans (heap_setCell_ne hk)).mono fun k hk => Or.inl (Or.inl hk)
    have kF : Keep Y w WF := by
      rw [← hWF]
      have hne : ∀ k, Y k → k ≠ w.heap.size + 1 := fun k hk => by have := HK.out.2.2.2 k hk; omega
      exact (H11.out.2.2.trans (Keep.mark hne)).trans (Keep.mark hne)
    clear hWF x0 x1 f0 f1
    have u0 : (WF).cell? ⟨w.heap.size + 1, 0, none⟩ = some (.int .u64 0) := by rw [cell_of_block eF]; rfl
    have u1 : (WF).cell? ⟨w.heap.size + 1, 1, none⟩ = some (.int .u64 0) := by rw [cell_of_block eF]; rfl
    exact bodyPost_ret (v := .tuple #[.int .u64 (rr : Nat), .agg #[.int .u64 0, .int .u64 0], .bool false, .int .i64 0]) (by simp [results, Tryz.f144, go_sem, u0, u1]) rfl ⟨Bt.leafOf rr e, _, o1, rfl, stF, kF, HFN.out⟩
  · have T4 := two_alloc w6 (.cells #[.int .u64 (e.vh : Nat)] 43) (.cells #[.int .u64 (e.kh : Nat)] 43)
    refine plan_do _ (by rfl) (by rfl) (fun K hK => ?_)
    go_simp
    try go_simp
    refine hK.out _ _ (HJ.out _ T4.1) ?_
    clear hK K
    try simp only [Act.put, List.setIfInBounds_toArray, List.set_cons_zero, List.set_cons_succ]
    refine plan_do _ (by rfl) (by rfl) (fun K hK => ?_)
    go_simp
    try go_simp
    refine hK.out _ _ (HJ.out _ T4.2.1) ?_
    clear hK K
    try simp only [Act.put, List.setIfInBounds_toArray, List.set_cons_zero, List.set_cons_succ]
    refine' plan_take _ (by rfl) _ (by rfl) ?_ ?_
    rotate_left
    · rintro _ ⟨x, rfl⟩
      go_simp
      try with_reducible rfl
    try simp only [Act.put, List.setIfInBounds_toArray, List.set_cons_zero, List.set_cons_succ]
    refine plan_do _ (by rfl) (by rfl) (fun K hK => ?_)
    go_simp
    refine (HA.out _ (w6.heap.size + 1) w6.heap.size T4.2.1 (by omega) (by omega) T4.2.2.2 T4.2.2.1).mono ?_
    rintro en w11 ⟨rfl, v11, st11, kp11, sp11, own11⟩
    have hI11 : I w11 := hJ2 _ _ T4.2.1 kp11
    have hold := (HJI.out _ hI11).2
    have kF : Keep Y w w11 := (HK.out.1.trans (Keep.of_below T4.2.1 fun k hk => by have := HK.out.2.2.2 k hk; omega)).trans (kp11.mono fun k hk => ⟨Or.inl (Or.inl hk), by have := HK.out.2.2.2 k hk; omega⟩)
    have x0 : (w11).cell? ⟨w.heap.size + 1, 0, none⟩ = some (.int .u64 0) := by rw [cell_of_block hold]; rfl
    have x1 : (w11).cell? ⟨w.heap.size + 1, 1, none⟩ = some (.int .u64 0) := by rw [cell_of_block hold]; rfl
    have f0 : (w11).frozen? ⟨w.heap.size + 1, 0, none⟩ = false := frozen_of_block hold
    have f1 : (w11).frozen? ⟨w.heap.size + 1, 1, none⟩ = false := frozen_of_block hold
    have H11 := Lib.hid (And.intro hold (And.intro st11 kF))
    clear kp11 sp11 own11 hold st11 kF T4
    try go_simp
    refine hK.out _ _ (hI11) ?_
    clear hK K
    try simp only [Act.put, List.setIfInBounds_toArray, List.set_cons_zero, List.set_cons_succ]
    refine plan_do _ (by rfl) (by rfl) (fun K hK => ?_)
    go_simp
    try go_simp
    refine hK.out _ _ (hI11) ?_
    clear hK K
    try simp only [Act.put, List.setIfInBounds_toArray, List.set_cons_zero, List.set_cons_succ]
    refine plan_do _ (by rfl) (by rfl) (fun K hK => ?_)
    go_simp
    try go_simp
    refine hK.out _ _ (hJ3 _ hI11) ?_
    clear hK K
    try simp only [Act.put, List.setIfInBounds_toArray, List.set_cons_zero, List.set_cons_succ]
    refine plan_do _ (by rfl) (by rfl) (fun K hK => ?_)
    go_simp
    try go_simp
    refine hK.out _ _ (hJ3 _ hI11) ?_
    clear hK K
    try simp only [Act.put, List.setIfInBounds_toArray, List.set_cons_zero, List.set_cons_succ]
    refine plan_do _ (by rfl) (by rfl) (fun K hK => ?_)
    go_simp
    try go_simp
    refine hK.out _ _ (hJ3 _ hI11) ?_
    clear hK K
    try simp only [Act.put, List.setIfInBounds_toArray, List.set_cons_zero, List.set_cons_succ]
    refine plan_nil ?_
    go_wp2_with fail
    obtain ⟨WF, hWF⟩ : ∃ WF, ((w11.setCell ⟨w.heap.size + 1, 0, none⟩ (.int .u64 0)).setCell ⟨w.heap.size + 1, 1, none⟩ (.int .u64 0)) = WF := ⟨_, rfl⟩
    rw [hWF]
    have eF : WF.heap[w.heap.size + 1]? = some (.cells #[.int .u64 0, .int .u64 0] 105 (0, 0)) := by
      rw [← hWF]
      exact heap_setCell (i := 1) (v := .int .u64 0) (heap_setCell (i := 0) (v := .int .u64 0) H11.out.1)
    have stF : StOn WF ps (putWords S1 rr 0 (bnWords t (Bt.bn (Bt.leafOf rr e)))) Y := by
      rw [← hWF]
      exact (H11.out.2.1.write (b := w.heap.size + 1) (Or.inl (Or.inr ⟨by omega, by omega⟩)) H11.out.1 ⟨by decide, by decide⟩ (by simp) (by simp) fun k _ hk => (heap_setCell_ne hk).trans (heap_setCell_ne hk)).mono fun k hk => Or.inl (Or.inl hk)
    have kF : Keep Y w WF := by
      rw [← hWF]
      have hne : ∀ k, Y k → k ≠ w.heap.size + 1 := fun k hk => by have := HK.out.2.2.2 k hk; omega
      exact (H11.out.2.2.trans (Keep.mark hne)).trans (Keep.mark hne)
    clear hWF x0 x1 f0 f1
    have u0 : (WF).cell? ⟨w.heap.size + 1, 0, none⟩ = some (.int .u64 0) := by rw [cell_of_block eF]; rfl
    have u1 : (WF).cell? ⟨w.heap.size + 1, 1, none⟩ = some (.int .u64 0) := by rw [cell_of_block eF]; rfl
    exact bodyPost_ret (v := .tuple #[.int .u64 (rr : Nat), .agg #[.int .u64 0, .int .u64 0], .bool false, .int .i64 0]) (by simp [results, Tryz.f144, go_sem, u0, u1]) rfl ⟨Bt.leafOf rr e, _, o1, rfl, stF, kF, HFN.out⟩
end Go.Proofs.YtepdkbmnkjfcpaaGreatDoor
