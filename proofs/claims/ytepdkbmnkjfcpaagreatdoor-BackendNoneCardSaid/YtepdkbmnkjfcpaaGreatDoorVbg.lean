/- B-trees: Insert of a key that is not there: the walk. -/
import Derived.Test.YtepdkbmnkjfcpaaGreatDoorVbf
import Derived.Test.YtepdkbmnkjfcpaaGreatDoorVal
set_option maxRecDepth 100000
set_option maxHeartbeats 6400000
namespace Go.Proofs.YtepdkbmnkjfcpaaGreatDoor
open Go.RowKit Go.BigFrame Go.Maps Go.WideMaps Lf Tr
open Go.Shelf
theorem Bt.trail_le : ∀ p : List Bool, Bt.trail p ≤ p.length
  | [] => Nat.le_refl _
  | b :: r => by
    unfold Bt.trail
    have := Bt.trail_le r
    rw [List.length_cons]
    split
    · split <;> omega
    · omega
theorem fullB_len (t : Nat) (key : List UInt8) : ∀ {d : Nat} (x : Bt d), (Bt.fullB t key x).length ≤ d
  | 0, x => nomatch x
  | d + 1, x => by
    unfold Bt.fullB
    rw [List.length_cons]
    cases h : (Bn.ks x)[belowB key (Bn.es x)]? with
    | none => simp
    | some k => have := fullB_len t key k; simp only; omega
def needI (t : Nat) (key : List UInt8) {d : Nat} (x : Bt (d + 1)) : Nat := Bt.needB 0 true (Bt.fullB t key x)
theorem needI_eq (t : Nat) (key : List UInt8) {d : Nat} (x : Bt (d + 1)) : needI t key x = Bt.trail (Bt.fullB t key x) + (if (Bt.fullB t key x).all id = true then 1 else 0) ∧ needI t key x ≤ d + 2 := by
  have h := Bt.need_zero (Bt.fullB t key x)
  have h1 := Bt.trail_le (Bt.fullB t key x)
  have h2 := fullB_len t key x
  refine ⟨h, ?_⟩
  unfold needI
  rw [h]
  split <;> omega
theorem three_alloc (w : World) (o1 o2 o3 : Obj) : Below w.heap.size w (w.drew.alloc o1) ∧ Below w.heap.size w ((w.drew.alloc o1).alloc o2) ∧ Below w.heap.size w (((w.drew.alloc o1).alloc o2).alloc o3) ∧ (((w.drew.alloc o1).alloc o2).alloc o3).heap[w.heap.size]? = some o1 ∧ (((w.drew.alloc o1).alloc o2).alloc o3).heap[w.heap.size + 1]? = some o2 ∧ (((w.drew.alloc o1).alloc o2).alloc o3).heap[w.heap.size + 2]? = some o3 := by
  have z1 : (w.drew.alloc o1).heap.size = w.heap.size + 1 := by simp
  have z2 : ((w.drew.alloc o1).alloc o2).heap.size = w.heap.size + 2 := by simp
  have b1 := ((Below.refl w.heap.size w).drew).alloc (Nat.le_refl _) o1
  have c2 := (Below.refl (w.drew.alloc o1).heap.size (w.drew.alloc o1)).alloc (Nat.le_refl _) o2
  have c3 := (Below.refl ((w.drew.alloc o1).alloc o2).heap.size ((w.drew.alloc o1).alloc o2)).alloc (Nat.le_refl _) o3
  have q1 := heap_alloc_new w.drew o1
  have q2 := heap_alloc_new (w.drew.alloc o1) o2
  have q3 := heap_alloc_new ((w.drew.alloc o1).alloc o2) o3
  have r1 := (c3.block w.heap.size (by omega)).trans ((c2.block w.heap.size (by omega)).trans q1)
  rw [z1] at q2
  rw [z2] at q3
  have r2 := (c3.block (w.heap.size + 1) (by omega)).trans q2
  exact ⟨b1, b1.trans (c2.mono (by rw [z1]; omega)), (b1.trans (c2.mono (by rw [z1]; omega))).trans (c3.mono (by rw [z2]; omega)), r1, r2, q3⟩
theorem bt_insert_new (hins : ∀ d, InsAt d) {w : World} {ps : Nat} {S : St} {o : Nat → Nat} {Y : Nat → Prop} (h : StOn w ps S Y) {t d : Nat} {x : Bt (d + 1)} (hx : Bt.Tree S o t x) {e : It} (hn : Bt.New S x e) (hr : Space S (2 * needI t e.k x) (needI t e.k x)) :
    Calls Tryz.prog 144 #[PV ps, .int .i64 t, .int .u64 (Bt.hd x : Nat), itV e.kh e.vh] w fun en w' => ∃ (d' : Nat) (y : Bt (d' + 1)) (S' : St) (o' : Nat → Nat), en = .returned (.tuple #[.int .u64 (Bt.hd y : Nat), itV 0 0, .bool false, .int .i64 0]) ∧ StOn w' ps S' Y ∧ Keep Y w w' ∧ Bt.Tree S' o' t y ∧ Bt.its y = Bt.insB e (Bt.its x) ∧ (∀ z ∈ Bt.nodes y, z ∈ Bt.nodes x ∨ reco S z = none) ∧ (∀ z, z ∉ Bt.nodes x → reco S z ≠ none → reco S' z = reco S z) ∧ Grew S S' (2 * needI t e.k x) (needI t e.k x) := by
  have B0 := ((Below.refl w.heap.size w).alloc (Nat.le_refl _) (.cells #[.int .u64 e.kh, .int .u64 e.vh] 105)).alloc (by simp) (.cells #[.int .u64 0, .int .u64 0] 105)
  have z1 : (w.alloc (.cells #[.int .u64 e.kh, .int .u64 e.vh] 105)).heap.size = w.heap.size + 1 := by simp
  have q1 := heap_alloc_new w (.cells #[.int .u64 e.kh, .int .u64 e.vh] 105)
  have q2 := heap_alloc_new (w.alloc (.cells #[.int .u64 e.kh, .int .u64 e.vh] 105)) (.cells #[.int .u64 0, .int .u64 0] 105)
  have q1 := (((Below.refl (w.alloc (.cells #[.int .u64 e.kh, .int .u64 e.vh] 105)).heap.size (w.alloc (.cells #[.int .u64 e.kh, .int .u64 e.vh] 105))).alloc (Nat.le_refl _) (.cells #[.int .u64 0, .int .u64 0] 105)).block w.heap.size (by simp)).trans q1
  rw [z1] at q2
  have hz : ((w.alloc (.cells #[.int .u64 e.kh, .int .u64 e.vh] 105)).alloc (.cells #[.int .u64 0, .int .u64 0] 105)).heap.size = w.heap.size + 2 := by simp
  generalize hW : (w.alloc (.cells #[.int .u64 e.kh, .int .u64 e.vh] 105)).alloc (.cells #[.int .u64 0, .int .u64 0] 105) = W0 at *
  have A1 := (Below.refl W0.heap.size W0).alloc (Nat.le_refl _) (.cells #[PV ps, .int .i64 t] 221)
  have q3 := heap_alloc_new W0 (.cells #[PV ps, .int .i64 t] 221)
  have hz1 : (W0.alloc (.cells #[PV ps, .int .i64 t] 221)).heap.size = w.heap.size + 3 := by simp [hz]
  have hw := hx.walk
  have hi := hx.fit.inv
  have has := bt_asked (h.below B0) hi hx.t1 hx.t2
  obtain ⟨W1, hW1⟩ : ∃ W1, W0.alloc (.cells #[PV ps, .int .i64 t] 221) = W1 := ⟨_, rfl⟩
  rw [hW1] at A1 q3 hz1
  have B1 := B0.trans (A1.mono (by omega))
  rw [hz] at q3
  have hkb := getBlob_look hx.fit hn.blobs.lk hn.blobs.k
  have hbg := blob_get (h.below B1) hi e.kh (Bt.blobs_lt hx.fit hn.blobs).1 (by rw [hkb]; simp)
  rw [hkb] at hbg
  have q1 := (A1.block _ (by omega)).trans q1
  have q2 := (A1.block _ (by omega)).trans q2
  have x0 : (W1).cell? ⟨w.heap.size, 0, none⟩ = some (.int .u64 e.kh) := by rw [cell_of_block q1]; rfl
  have x1 : (W1).cell? ⟨w.heap.size, 1, none⟩ = some (.int .u64 e.vh) := by rw [cell_of_block q1]; rfl
  have H0 := Lib.hid (And.intro h (And.intro hx (And.intro hn (And.intro hr (And.intro hw (And.intro hi hz1))))))
  have H1 := Lib.hid (And.intro B1 (And.intro q1 (And.intro q2 q3)))
  have HAS := Lib.hid has
  have HBG := Lib.hid hbg
  have hh0 : Bt.hd x ≠ 0 := (Bt.At.hd_ok hx.fit hx.at').1
  have hh1 : ((Bt.hd x : Nat) : Int) ≠ 0 := by omega
  clear z1 q1 q2 q3 B0 B1 A1 hw hi has hkb hbg h hx hn hr
  unfold itV
  go_enter Tryz.func144, Tryz.ntmps144
  go_wp2_with fail
  refine HAS.out.mono ?_
  rintro en w1 ⟨rfl, rfl⟩
  clear hW
  go_wp2_with fail
  refine HBG.out.mono ?_
  rintro en w2 ⟨rfl, hb2⟩
  clear x0 x1
  have p1 := (hb2.block _ (by have := H0.out.2.2.2.2.2.2; omega)).trans H1.out.2.1
  have p2 := (hb2.block _ (by have := H0.out.2.2.2.2.2.2; omega)).trans H1.out.2.2.1
  have p3 := (hb2.block _ (by have := H0.out.2.2.2.2.2.2; omega)).trans H1.out.2.2.2
  have b2 := H1.out.1.trans (hb2.mono H1.out.1.size)
  have x0 : (w2).cell? ⟨w.heap.size + 2, 0, none⟩ = some (PV ps) := by rw [cell_of_block p3]; rfl
  have x1 : (w2).cell? ⟨w.heap.size + 2, 1, none⟩ = some (.int .i64 t) := by rw [cell_of_block p3]; rfl
  have hget := bt_get (H0.out.1.below b2) H0.out.2.2.2.2.2.1 H0.out.2.2.2.2.1.read
  have hs2 : w.heap.size + 3 ≤ w2.heap.size := by have := hb2.size; have := H0.out.2.2.2.2.2.2; omega
  unfold trB bnV at hget
  have HGT := Lib.hid hget
  have H2 := Lib.hid (And.intro b2 (And.intro p1 (And.intro p2 p3)))
  clear hb2 p1 p2 p3 b2 hget HBG HAS H1 hW1
  go_wp2_with fail
  refine HGT.out.mono ?_
  rintro en w3 ⟨vk, vv, vc, rfl, rows, hb3⟩
  obtain ⟨Ak, mk, ck, rfl⟩ := rows.k.slice
  obtain ⟨Av, mv, cv, rfl⟩ := rows.v.slice
  obtain ⟨Ac, mc, cc, rfl⟩ := rows.c.slice
  obtain ⟨sz, hsz⟩ : ∃ sz, (Bt.bn x).size = sz := ⟨_, rfl⟩
  rw [hsz]
  clear hsz
  have A3 := (Below.refl w3.heap.size w3).alloc (Nat.le_refl _) (.cells #[.slice Ak mk ck, .slice Av mv cv, .slice Ac mc cc, .int .u64 sz] 267)
  obtain ⟨W3, hW3⟩ : ∃ W3, w3.alloc (.cells #[.slice Ak mk ck, .slice Av mv cv, .slice Ac mc cc, .int .u64 sz] 267) = W3 := ⟨_, rfl⟩
  rw [hW3] at A3
  have c3 := hb3.trans (A3.mono hb3.size)
  have p1 := (c3.block _ (by omega)).trans H2.out.2.1
  have p2 := (c3.block _ (by omega)).trans H2.out.2.2.1
  have p3 := (c3.block _ (by omega)).trans H2.out.2.2.2
  have B3 := H2.out.1.trans (c3.mono H2.out.1.size)
  have hs3 : w.heap.size + 3 ≤ W3.heap.size := by have := c3.size; omega
  have hdl := H0.out.2.1.low
  have hno := Bt.findB_none H0.out.2.2.1.key
  have hdn := fun W (hw : Below W3.heap.size W3 W) => bt_down (H0.out.1.below (B3.trans (hw.mono B3.size))) H0.out.2.2.2.2.1 (by omega) e.k
  rw [hno] at hdn
  have hfd := btree_find (R := none) (hdn W3 (Below.refl _ _)) fun W hW => hdn W (by rw [hW]; exact (Below.refl _ _).alloc (Nat.le_refl _) _)
  unfold itO itV at hfd
  dsimp only [Option.isSome] at hfd
  have HFD := Lib.hid hfd
  have H3 := Lib.hid (And.intro B3 (And.intro p1 (And.intro p2 p3)))
  clear A3 c3 p1 p2 p3 B3 hno hdn hfd x0 x1 hb3 H2 HGT rows
  go_wp2_with fail
  refine HFD.out.mono ?_
  rintro en w4 ⟨rfl, hb4⟩
  clear hW3
  go_wp2_with fail
  have A4 := (Below.refl w4.heap.size w4).alloc (Nat.le_refl _) (.cells #[.int .u64 0, .int .u64 0] 105)
  obtain ⟨W4, hW4⟩ : ∃ W4, w4.alloc (.cells #[.int .u64 0, .int .u64 0] 105) = W4 := ⟨_, rfl⟩
  rw [hW4] at A4
  rw [hW4]
  clear hW4
  have c4 := hb4.trans (A4.mono hb4.size)
  have p1 := (c4.block _ (by omega)).trans H3.out.2.1
  have p2 := (c4.block _ (by omega)).trans H3.out.2.2.1
  have p3 := (c4.block _ (by omega)).trans H3.out.2.2.2
  have B4 := H3.out.1.trans (c4.mono H3.out.1.size)
  have hs4 : w.heap.size + 3 ≤ W4.heap.size := by have := c4.size; omega
  have st4 := H0.out.1.wide B4
  have HND := fun W (hw : Below W4.heap.size W4 W) => bt_need (H0.out.1.below (B4.trans (hw.mono B4.size))) H0.out.2.2.2.2.1 (by omega) e.k
  obtain ⟨q, hq⟩ : ∃ q, needI t e.k x = q := ⟨_, rfl⟩
  have hq2 : q ≤ 22 := by have := (needI_eq t e.k x).2; omega
  have hrq := H0.out.2.2.2.1
  rw [hq] at hrq
  have HMK := fun W (hw : Below W4.heap.size W4 W) => bt_maker (st4.below hw) H0.out.2.1.fit H0.out.2.1.t1 H0.out.2.1.t2 q (by omega) hrq
  have hqq : Bt.needB 0 true (Bt.fullB t e.k x) = q := hq
  rw [hqq] at HND
  unfold trB at HND HMK
  have HND := Lib.hid HND
  have HMK := Lib.hid HMK
  have H4 := Lib.hid (And.intro B4 (And.intro p1 (And.intro p2 (And.intro p3 st4))))
  have HQ := Lib.hid hq
  clear A4 c4 p1 p2 p3 B4 st4 hq hqq hrq hb4 H3 HFD
  obtain ⟨I, hIi, hIo⟩ : ∃ I : World → Prop, (∀ w', I w' → w'.heap[w.heap.size + 2]? = W4.heap[w.heap.size + 2]?) ∧ (∀ w', w'.heap[w.heap.size + 2]? = W4.heap[w.heap.size + 2]? → I w') := ⟨fun w' => w'.heap[w.heap.size + 2]? = W4.heap[w.heap.size + 2]?, fun _ h => h, fun _ h => h⟩
  have hz1 := fun x : Keeps I => (hIi _ x.ok).trans H4.out.2.2.2.1
  have r0 : ∀ x : Keeps I, x.to.cell? ⟨w.heap.size + 2, 0, none⟩ = some (PV ps) := fun x => by rw [cell_of_block (hz1 x)]; rfl
  have r1 : ∀ x : Keeps I, x.to.cell? ⟨w.heap.size + 2, 1, none⟩ = some (.int .i64 t) := fun x => by rw [cell_of_block (hz1 x)]; rfl
  have hI0 : I W4.drew := hIo _ rfl
  have HIo := Lib.hid hIo
  clear hIi hIo hz1
  refine wp_region_plan I (.take 0 (.take 1 (.take 2 (.take 3 (.go 4 (.go 5 (.take 6 (.take 7 (.take 8 (.go 9 (.go 10 .nil))))))))))) (by kernel_rfl) (by kernel_rfl) hI0 ?_
  refine' plan_take _ (by rfl) _ (by rfl) ?_ ?_
  rotate_left
  · rintro _ ⟨x, rfl⟩
    have hxr0 := r0 x
    have hxr1 := r1 x
    go_simp
    try with_reducible rfl
  try simp only [Act.put, List.setIfInBounds_toArray, List.set_cons_zero, List.set_cons_succ]
  refine' plan_take _ (by rfl) _ (by rfl) ?_ ?_
  rotate_left
  · rintro _ ⟨x, rfl⟩
    have hxr0 := r0 x
    have hxr1 := r1 x
    go_simp
    try with_reducible rfl
  try simp only [Act.put, List.setIfInBounds_toArray, List.set_cons_zero, List.set_cons_succ]
  refine' plan_take _ (by rfl) _ (by rfl) ?_ ?_
  rotate_left
  · rintro _ ⟨x, rfl⟩
    have hxr0 := r0 x
    have hxr1 := r1 x
    go_simp
    try with_reducible rfl
  try simp only [Act.put, List.setIfInBounds_toArray, List.set_cons_zero, List.set_cons_succ]
  refine' plan_take _ (by rfl) _ (by rfl) ?_ ?_
  rotate_left
  · rintro _ ⟨x, rfl⟩
    have hxr0 := r0 x
    have hxr1 := r1 x
    go_simp
    try with_reducible rfl
  try simp only [Act.put, List.setIfInBounds_toArray, List.set_cons_zero, List.set_cons_succ]
  refine plan_do _ (by rfl) (by rfl) (fun K hK => ?_)
  go_simp
  refine (HND.out _ (Below.refl _ W4).drew).mono ?_
  rintro en w5 ⟨rfl, hb5⟩
  have hI5 : I w5 := HIo.out _ (hb5.block _ hs4)
  have B5 := (Below.refl W4.heap.size W4).drew.trans hb5
  have HB5 := Lib.hid B5
  clear hb5 B5
  try go_simp
  refine hK.out _ _ (hI5) ?_
  clear hK K
  try simp only [Act.put, List.setIfInBounds_toArray, List.set_cons_zero, List.set_cons_succ]
  refine plan_do _ (by rfl) (by rfl) (fun K hK => ?_)
  go_simp
  refine (HMK.out _ HB5.out).mono ?_
  rintro en w6 ⟨rfl, S1, o1, v6, L, st6, kp6, sp6, f6, hL6, spa6, hn6, hfr6, hg6⟩
  have hI6 : I w6 := HIo.out _ ((kp6.block _ (Or.inr ⟨by omega, by omega⟩)).trans (HB5.out.block _ hs4))
  have H6 := Lib.hid (And.intro st6 (And.intro kp6 (And.intro sp6 (And.intro f6 (And.intro hL6 (And.intro spa6 (And.intro hn6 (And.intro hfr6 hg6))))))))
  clear st6 kp6 sp6 f6 hL6 spa6 hn6 hfr6 hg6
  try go_simp
  refine hK.out _ _ (hI6) ?_
  clear hK K
  try simp only [Act.put, List.setIfInBounds_toArray, List.set_cons_zero, List.set_cons_succ]
  refine' plan_take _ (by rfl) _ (by rfl) ?_ ?_
  rotate_left
  · rintro _ ⟨x, rfl⟩
    go_simp
    try with_reducible rfl
  try simp only [Act.put, List.setIfInBounds_toArray, List.set_cons_zero, List.set_cons_succ]
  refine' plan_take _ (by rfl) _ (by rfl) ?_ ?_
  rotate_left
  · rintro _ ⟨x, rfl⟩
    go_simp
    try with_reducible rfl
  try simp only [Act.put, List.setIfInBounds_toArray, List.set_cons_zero, List.set_cons_succ]
  refine' plan_take _ (by rfl) _ (by rfl) ?_ ?_
  rotate_left
  · rintro _ ⟨x, rfl⟩
    go_simp
    try with_reducible rfl
  try simp only [Act.put, List.setIfInBounds_toArray, List.set_cons_zero, List.set_cons_succ]
  refine plan_do _ (by rfl) (by rfl) (fun K hK => ?_)
  go_simp
  try go_simp
  refine hK.out _ _ (hI6) ?_
  clear hK K
  try simp only [Act.put, List.setIfInBounds_toArray, List.set_cons_zero, List.set_cons_succ]
  refine plan_do _ (by rfl) (by rfl) (fun K hK => ?_)
  go_simp
  try go_simp
  refine hK.out _ _ (hI6) ?_
  clear hK K
  try simp only [Act.put, List.setIfInBounds_toArray, List.set_cons_zero, List.set_cons_succ]
  refine plan_nil ?_
  have hz4 := hs4
  have k6 : ∀ k, w.heap.size ≤ k → k < W4.heap.size → w6.heap[k]? = W4.heap[k]? := fun k h1 h2 => (H6.out.2.1.block k (Or.inr ⟨h1, h2⟩)).trans (HB5.out.block k h2)
  have p1 := (k6 w.heap.size (by omega) (by omega)).trans H4.out.2.1
  have p2 := (k6 (w.heap.size + 1) (by omega) (by omega)).trans H4.out.2.2.1
  have p3 := (k6 (w.heap.size + 2) (by omega) (by omega)).trans H4.out.2.2.2.1
  have x0 : (w6).cell? ⟨w.heap.size, 0, none⟩ = some (.int .u64 e.kh) := by rw [cell_of_block p1]; rfl
  have x1 : (w6).cell? ⟨w.heap.size, 1, none⟩ = some (.int .u64 e.vh) := by rw [cell_of_block p1]; rfl
  have y0 : (w6).cell? ⟨w.heap.size + 2, 0, none⟩ = some (PV ps) := by rw [cell_of_block p3]; rfl
  have y1 : (w6).cell? ⟨w.heap.size + 2, 1, none⟩ = some (.int .i64 t) := by rw [cell_of_block p3]; rfl
  have hx1 : Bt.Tree S1 o1 t x := H0.out.2.1.frame H6.out.2.2.2.1 fun y hy => H6.out.2.2.2.2.2.2.2.1 y fun hm => H0.out.2.1.has y hy (H6.out.2.2.2.2.2.2.1 y hm)
  have hlt := Bt.blobs_lt H0.out.2.1.fit H0.out.2.2.1.blobs
  have hin := hins d 0 H6.out.1 hx1.walk hx1.nodes (by omega) H6.out.2.2.1 H6.out.2.2.2.2.2.1 (fun y hy q => H0.out.2.1.has y (List.mem_append_left _ q) (H6.out.2.2.2.2.2.2.1 y hy)) (Or.inr (Or.inr (Or.inl rfl))) (Or.inr (Or.inl rfl)) (fun b hb => Or.inr (Or.inr (Or.inr hb))) (by have := H6.out.2.2.2.2.1; omega) H0.out.2.2.1.key hx1.lts hlt.1 hlt.2 (by have h1 := (needI_eq t e.k x).1; have h2 := HQ.out; have h3 := H6.out.2.2.2.2.1; omega)
  unfold trB itV takeV at hin
  have e0 : ((0 : Nat) : Int) = 0 := rfl
  rw [e0] at hin
  have HIN := Lib.hid hin
  have HX1 := Lib.hid (And.intro hx1 (And.intro p2 k6))
  clear e0 hin hx1 hlt p1 p2 p3 k6 r0 r1 HND HMK HIo hI0 hI5 hI6
  go_wp2_with fail
  refine HIN.out.mono ?_
  rintro en w7 ⟨r, S2, v7, L7, U, rfl, h7⟩
  have H7 := Lib.hid h7
  clear h7 HIN x0 x1 y0 y1
  have hyl := H0.out.1.yl
  have hs5 := HB5.out.size
  have hs6 := H6.out.2.1.size
  have kY : Keep Y w w7 := ((Keep.of_below H4.out.1 hyl).trans (Keep.of_below HB5.out fun k hk => by have := hyl k hk; omega)).trans ((H6.out.2.1.mono fun k hk => Or.inl hk).trans (H7.out.2.2.2.1.mono fun k hk => ⟨Or.inl (Or.inl hk), by have := hyl k hk; omega⟩))
  have p2 := (H7.out.2.2.2.1.block (w.heap.size + 1) ⟨Or.inl (Or.inr ⟨by omega, by omega⟩), by omega⟩).trans HX1.out.2.1
  have p3 := (H7.out.2.2.2.1.block (w.heap.size + 2) ⟨Or.inl (Or.inr ⟨by omega, by omega⟩), by omega⟩).trans ((HX1.out.2.2 _ (by omega) (by omega)).trans H4.out.2.2.2.1)
  have hUL : ∀ y ∈ U, y ∈ L := fun y hy => by rw [H7.out.1]; exact List.mem_append_right _ hy
  have hfr : ∀ z, z ∉ Bt.nodes x → z ∉ L → reco S2 z = reco S z := fun z h1 h2 => (H7.out.2.1.fr z h1 fun q => h2 (hUL z q)).trans (H6.out.2.2.2.2.2.2.2.1 z h2)
  have hgr : Grew S S2 (2 * q) q := (H6.out.2.2.2.2.2.2.2.2.trans H7.out.2.1.grew).mono (by omega) (by omega)
  have hp7 := (Array.getElem?_eq_some_iff.1 p2).1
  have hp73 := (Array.getElem?_eq_some_iff.1 p3).1
  have HK := Lib.hid (And.intro kY (And.intro p2 (And.intro p3 (And.intro hUL (And.intro hfr (And.intro hgr hyl))))))
  clear kY p2 p3 hUL hfr hgr hyl
  rcases r with _ | ⟨m, g⟩
  · dsimp only [upV, upC]
    go_wp2_with fail
    have A8 := (Below.refl w7.heap.size w7).alloc (Nat.le_refl _) (.cells #[.bool false, .int .u64 0, .int .u64 0, .int .u64 0] 276)
    obtain ⟨W8, hW8⟩ : ∃ W8, w7.alloc (.cells #[.bool false, .int .u64 0, .int .u64 0, .int .u64 0] 276) = W8 := ⟨_, rfl⟩
    rw [hW8] at A8
    rw [hW8]
    have p2 := (A8.block _ hp7).trans HK.out.2.1
    have st8 := H7.out.2.2.1.below A8
    have k8 : Keep Y w W8 := HK.out.1.trans (Keep.of_below A8 fun k hk => by have := HK.out.2.2.2.2.2.2 k hk; have := HK.out.1.size; omega)
    have x0 : (W8).cell? ⟨w.heap.size + 1, 0, none⟩ = some (.int .u64 0) := by rw [cell_of_block p2]; rfl
    have x1 : (W8).cell? ⟨w.heap.size + 1, 1, none⟩ = some (.int .u64 0) := by rw [cell_of_block p2]; rfl
    have f0 : (W8).frozen? ⟨w.heap.size + 1, 0, none⟩ = false := frozen_of_block p2
    have f1 : (W8).frozen? ⟨w.heap.size + 1, 1, none⟩ = false := frozen_of_block p2
    have H8 := Lib.hid (And.intro p2 (And.intro st8 k8))
    clear hW8 A8 p2 st8 k8
    go_region
    go_wp2_with fail
    obtain ⟨WF, hWF⟩ : ∃ WF, (((W8.setCell ⟨w.heap.size + 1, 0, none⟩ (.int .u64 0)).setCell ⟨w.heap.size + 1, 1, none⟩ (.int .u64 0))).drew = WF := ⟨_, rfl⟩
    rw [hWF]
    have eF : WF.heap[w.heap.size + 1]? = some (.cells #[.int .u64 0, .int .u64 0] 105 (0, 0)) := by
      rw [← hWF]
      exact heap_setCell (i := 1) (v := .int .u64 0) (heap_setCell (i := 0) (v := .int .u64 0) H8.out.1)
    have stF : StOn WF ps S2 Y := by
      rw [← hWF]
      exact ((H8.out.2.1.write (b := w.heap.size + 1) (Or.inl (Or.inr ⟨by omega, by omega⟩)) H8.out.1 ⟨by decide, by decide⟩ (by simp) (by simp) fun k _ hk => (heap_setCell_ne hk).trans (heap_setCell_ne hk)).below (Below.refl _ _).drew).mono fun k hk => Or.inl (Or.inl hk)
    have kF : Keep Y w WF := by
      rw [← hWF]
      have hne : ∀ k, Y k → k ≠ w.heap.size + 1 := fun k hk => by have := HK.out.2.2.2.2.2.2 k hk; omega
      exact ((H8.out.2.2.trans (Keep.mark hne)).trans (Keep.mark hne)).trans ⟨rfl, rfl, rfl, Nat.le_refl _, fun _ _ => rfl⟩
    clear hWF x0 x1 f0 f1
    have u0 : (WF).cell? ⟨w.heap.size + 1, 0, none⟩ = some (.int .u64 0) := by rw [cell_of_block eF]; rfl
    have u1 : (WF).cell? ⟨w.heap.size + 1, 1, none⟩ = some (.int .u64 0) := by rw [cell_of_block eF]; rfl
    obtain ⟨y, hy1, hy2, hy3, hy4⟩ := H0.out.2.1.insert_none H0.out.2.2.1 H6.out.2.2.2.2.2.2.1 H6.out.2.2.2.2.2.2.2.1 HK.out.2.2.2.1 H7.out.2.1
    exact bodyPost_ret (v := .tuple #[.int .u64 (Bt.hd x : Nat), .agg #[.int .u64 0, .int .u64 0], .bool false, .int .i64 0]) (by simp [results, Tryz.f144, go_sem, u0, u1]) rfl ⟨d, y, S2, o1, by rw [hy1]; rfl, stF, kF, hy2, hy3, fun z hz => (hy4 z hz).imp id fun hu => H6.out.2.2.2.2.2.2.1 z (HK.out.2.2.2.1 z hu), fun z h1 h2 => HK.out.2.2.2.2.1 z h1 fun hm => h2 (H6.out.2.2.2.2.2.2.1 z hm), by rw [HQ.out]; exact HK.out.2.2.2.2.2.1⟩
  · dsimp only [upV, upC]
    have hnum := H7.out.2.2.2.2.2.2.1
    have hall := H7.out.2.2.2.2.2.2.2
    have hqe := (needI_eq t e.k x).1
    have hall2 : (Bt.fullB t e.k x).all id = true := hall.symm
    rw [if_pos hall2, HQ.out] at hqe
    have hL7 : L7.length = 1 := by
      have h1 := H6.out.2.2.2.2.1
      have h2 := congrArg List.length H7.out.1
      rw [List.length_append] at h2
      omega
    obtain ⟨rr, hrr⟩ : ∃ rr, L7 = [] ++ [rr] := by
      cases L7 with
      | nil => simp at hL7
      | cons a l =>
        cases l with
        | nil => exact ⟨a, rfl⟩
        | cons b l => simp at hL7
    have hrL : rr ∈ L := by rw [H7.out.1, hrr]; simp
    have hrU : rr ∉ U := fun hm => by
      have hnd := H6.out.2.2.2.2.2.1.nd
      rw [H7.out.1, hrr] at hnd
      exact (List.nodup_append.1 hnd).2.2 rr (by simp) rr hm rfl
    obtain ⟨ws, hws1, hws2⟩ := H6.out.2.2.2.2.2.1.recs rr hrL
    obtain ⟨y1, y2, hy1, hy2, hy3, hy4, hy5, hy6, hy7, hy8, hy9, hy10, hy11, hy12, hy13, hy14, hy15⟩ := H0.out.2.1.insert_root H0.out.2.2.1 H6.out.2.2.2.2.2.2.1 H6.out.2.2.2.2.2.2.2.1 HK.out.2.2.2.1 H7.out.2.1 hrL hrU hws1 hws2
    obtain ⟨n1, hn1⟩ : ∃ n1, (Bt.its y1).length = n1 := ⟨_, rfl⟩
    obtain ⟨n2, hn2⟩ : ∃ n2, (Bt.its y2).length = n2 := ⟨_, rfl⟩
    have hsz1 := fun W Yx hst => kid_size (ps := ps) H7.out.2.1.fit H0.out.2.1.t1 H0.out.2.1.t2 hy3 hy5 (by omega) W Yx hst
    have hsz2 := fun W Yx hst => kid_size (ps := ps) H7.out.2.1.fit H0.out.2.1.t1 H0.out.2.1.t2 hy4 hy6 (by omega) W Yx hst
    rw [hy1, hn1] at hsz1
    rw [hy2, hn2] at hsz2
    have hnb : n1 + n2 + 1 < 1000000 := by omega
    have hsp7 := H7.out.2.2.2.2.1
    rw [hrr] at hsp7
    have hA : ∀ (W : World) (b1 b2 b3 : Nat), Below w7.heap.size w7 W → w7.heap.size ≤ b1 → w7.heap.size ≤ b2 → w7.heap.size ≤ b3 → W.heap[b1]? = some (.cells #[.int .u64 m.kh] 43 (0, 0)) → W.heap[b2]? = some (.cells #[.int .u64 m.vh] 43 (0, 0)) → W.heap[b3]? = some (.cells #[.int .u64 (Bt.hd x : Nat), .int .u64 g] 43 (0, 0)) →
        Calls Tryz.prog 229 #[.agg #[.slice (some ⟨b1, 0, none⟩) 1 1, .slice (some ⟨b2, 0, none⟩) 1 1, .slice (some ⟨b3, 0, none⟩) 2 2, .int .u64 ((n1 : Int) + n2 + 1)], PV (w5.heap.size + 1), PV w5.heap.size] W fun en w' => en = .returned (.int .u64 rr) ∧ ∃ v', StOn w' ps (putWords S2 rr 0 (bnWords t (Bt.bn (Bt.rootOf rr m y1 y2)))) (fun k => ((Y k ∨ (w.heap.size ≤ k ∧ k < W4.heap.size)) ∨ SpY w5.heap.size (w5.heap.size + 1) v6 k) ∨ (w7.heap.size ≤ k ∧ k < W.heap.size)) ∧ Keep (fun k => (((Y k ∨ (w.heap.size ≤ k ∧ k < W4.heap.size)) ∨ SpY w5.heap.size (w5.heap.size + 1) v6 k) ∨ (w7.heap.size ≤ k ∧ k < W.heap.size)) ∧ k ≠ w5.heap.size + 1) W w' ∧ SpOn w' w5.heap.size (w5.heap.size + 1) (w5.heap.size + 2) ps t v' [] ∧ v'.ownBlock = v7.ownBlock := by
      intro W b1 b2 b3 hB g1 g2 g3 e1 e2 e3
      have hz7 : w5.heap.size + 2 ≤ w7.heap.size := by
        have h1 := (Array.getElem?_eq_some_iff.1 hsp7.box).1
        omega
      have hro : ∀ (b k : Nat), W.heap[b]? = some (.cells #[.int .u64 k] 43 (0, 0)) → HRow W (.slice (some ⟨b, 0, none⟩) 1 1) [k] := fun b k hb => ⟨_, 1, rfl, fun i hi => ⟨b, 0, rfl, by
        have hi : i = 0 := by simp at hi; exact hi
        subst hi
        rw [cell_of_block hb]; rfl⟩⟩
      have hro2 : HRow W (.slice (some ⟨b3, 0, none⟩) 2 2) [Bt.hd x, g] := ⟨_, 2, rfl, fun i hi => ⟨b3, 0, rfl, by
        have hi : i = 0 ∨ i = 1 := by simp at hi; omega
        rcases hi with rfl | rfl
        · rw [cell_of_block e3]; rfl
        · rw [cell_of_block e3]; rfl⟩⟩
      have hlen : S2.len rr = (6 * t, 0) := by rw [look_len H7.out.2.1.fit.tab hy10, hws2]
      have hkids : ∀ k ∈ Bn.ks (Bt.rootOf rr m y1 y2), Bt.At S2 t k := fun k hk => by
        have hk : k ∈ [y1, y2] := hk
        rcases List.mem_cons.1 hk with rfl | hk
        · exact hy3
        · rw [List.mem_singleton.1 hk]
          exact hy4
      have hks : (Bt.bn (Bt.rootOf rr m y1 y2)).kids = [Bt.hd x, g] := by
        show [Bt.hd y1, Bt.hd y2] = _
        rw [hy1, hy2]
      have hsz : (((Bt.bn (Bt.rootOf rr m y1 y2)).size : Nat) : Int) = (n1 : Int) + n2 + 1 := by
        show (((Bt.its y1 ++ m :: Bt.its y2).length : Nat) : Int) = _
        rw [List.length_append, List.length_cons, hn1, hn2]
        omega
      have hob : ∀ {b n c : Nat}, w7.heap.size ≤ b → ∀ g, (Value.slice (some ⟨b, 0, none⟩) n c).ownBlock = some g → g ≠ w5.heap.size + 1 := fun hb g hg q => by
        have hg := Option.some.inj hg
        simp only at hg
        omega
      have htk := bt_take (n := Bt.bn (Bt.rootOf rr m y1 y2)) (vk := .slice (some ⟨b1, 0, none⟩) 1 1) (vv := .slice (some ⟨b2, 0, none⟩) 1 1) (vc := .slice (some ⟨b3, 0, none⟩) 2 2) (H7.out.2.2.1.wide hB) H7.out.2.1.fit.inv (hsp7.keeps fun k hk => hB.block k ?_) (Or.inl (Or.inr (Or.inr (Or.inl rfl)))) (Or.inl (Or.inr (Or.inl rfl))) (fun b hb => Or.inl (Or.inr (Or.inr (Or.inr (by rw [← H7.out.2.2.2.2.2.1]; exact hb))))) (by simp) (Bt.bnok_of H7.out.2.1.fit H0.out.2.1.t1 H0.out.2.1.t2 hkids hy8) (hro b1 _ e1) (hro b2 _ e2) (by rw [hks]; exact hro2) (hob g1) (hob g2) (hob g3) (look_ok H7.out.2.1.fit hy10).2.1 hlen (bnWords_lt hy9 (by show 1 < _; omega))
      · unfold bnV at htk
        rw [hsz] at htk
        exact htk
      · have hyl7 := H7.out.2.2.1.yl
        refine hyl7 k (Or.inr ?_)
        rcases hk with hk | hk | hk
        · exact Or.inl hk
        · exact Or.inr (Or.inl hk)
        · exact Or.inr (Or.inr (by rw [← H7.out.2.2.2.2.2.1]; exact hk))
    have HA := Lib.hid hA
    have HS1 := Lib.hid hsz1
    have HS2 := Lib.hid hsz2
    have HT := Lib.hid (And.intro hy11 (And.intro hy12 (And.intro hy13 (And.intro hy14 (And.intro hy15 hrL)))))
    clear hnum hall hqe hall2 hL7 hrr hrU hws1 hws2 hy1 hy2 hy3 hy4 hy5 hy6 hy7 hy8 hy9 hy10 hy11 hy12 hy13 hy14 hy15 hn1 hn2 hsz1 hsz2 hsp7 hA hrL
    go_wp2_with fail
    have A8 := (Below.refl w7.heap.size w7).alloc (Nat.le_refl _) (.cells #[.bool true, .int .u64 (m.kh : Nat), .int .u64 (m.vh : Nat), .int .u64 g] 276)
    have p4 := heap_alloc_new w7 (.cells #[.bool true, .int .u64 (m.kh : Nat), .int .u64 (m.vh : Nat), .int .u64 g] 276)
    obtain ⟨W8, hW8⟩ : ∃ W8, w7.alloc (.cells #[.bool true, .int .u64 (m.kh : Nat), .int .u64 (m.vh : Nat), .int .u64 g] 276) = W8 := ⟨_, rfl⟩
    rw [hW8] at A8 p4
    rw [hW8]
    clear hW8
    have p2 := (A8.block _ hp7).trans HK.out.2.1
    have p3 := (A8.block _ hp73).trans HK.out.2.2.1
    have hp82 := (Array.getElem?_eq_some_iff.1 p2).1
    have hp83 := (Array.getElem?_eq_some_iff.1 p3).1
    have hp84 := (Array.getElem?_eq_some_iff.1 p4).1
    have st8 := H7.out.2.2.1.below A8
    obtain ⟨I, hIi, hIo⟩ : ∃ I : World → Prop, (∀ w', I w' → ∀ k, k < W8.heap.size → w'.heap[k]? = W8.heap[k]?) ∧ (∀ w', (∀ k, k < W8.heap.size → w'.heap[k]? = W8.heap[k]?) → I w') := ⟨fun w' => ∀ k, k < W8.heap.size → w'.heap[k]? = W8.heap[k]?, fun _ h => h, fun _ h => h⟩
    have hz3 := fun x : Keeps I => (hIi _ x.ok _ hp83).trans p3
    have hz4' := fun x : Keeps I => (hIi _ x.ok _ hp84).trans p4
    have r0 : ∀ x : Keeps I, x.to.cell? ⟨w.heap.size + 2, 0, none⟩ = some (PV ps) := fun x => by rw [cell_of_block (hz3 x)]; rfl
    have r1 : ∀ x : Keeps I, x.to.cell? ⟨w.heap.size + 2, 1, none⟩ = some (.int .i64 t) := fun x => by rw [cell_of_block (hz3 x)]; rfl
    have s0 : ∀ x : Keeps I, x.to.cell? ⟨w7.heap.size, 0, none⟩ = some (.bool true) := fun x => by rw [cell_of_block (hz4' x)]; rfl
    have s1 : ∀ x : Keeps I, x.to.cell? ⟨w7.heap.size, 1, none⟩ = some (.int .u64 (m.kh : Nat)) := fun x => by rw [cell_of_block (hz4' x)]; rfl
    have s2 : ∀ x : Keeps I, x.to.cell? ⟨w7.heap.size, 2, none⟩ = some (.int .u64 (m.vh : Nat)) := fun x => by rw [cell_of_block (hz4' x)]; rfl
    have s3 : ∀ x : Keeps I, x.to.cell? ⟨w7.heap.size, 3, none⟩ = some (.int .u64 g) := fun x => by rw [cell_of_block (hz4' x)]; rfl
    have hI0 : I W8.drew := hIo _ fun _ _ => rfl
    have HIo := Lib.hid hIo
    have HP8 := Lib.hid (And.intro A8 (And.intro p2 (And.intro p3 (And.intro p4 st8))))
    have hw1 : IntKind.i64.wrap ((n1 : Int) + n2) = (n1 : Int) + n2 := IntWalk.i64_in _ (by omega)
    have hw2 : IntKind.u64.wrap ((n1 : Int) + n2) = (n1 : Int) + n2 := IntWalk.u64_in _ (by omega)
    have hw3 : IntKind.u64.wrap ((n1 : Int) + n2 + 1) = (n1 : Int) + n2 + 1 := IntWalk.u64_in _ (by omega)
    unfold trB at HS1 HS2
    clear hIi hIo hz3 hz4' A8 p2 p3 p4 st8
    refine wp_region_plan I (.take 0 (.take 1 (.take 3 (.take 4 (.take 5 (.go 2 (.go 6 (.take 7 (.take 8 (.take 9 (.go 10 .nil))))))))))) (by kernel_rfl) (by kernel_rfl) hI0 ?_
    refine' plan_take _ (by rfl) _ (by rfl) ?_ ?_
    rotate_left
    · rintro _ ⟨x, rfl⟩
      have hxr0 := r0 x
      have hxr1 := r1 x
      have hxs0 := s0 x
      have hxs1 := s1 x
      have hxs2 := s2 x
      have hxs3 := s3 x
      go_simp
      try with_reducible rfl
    try simp only [Act.put, List.setIfInBounds_toArray, List.set_cons_zero, List.set_cons_succ]
    refine' plan_take _ (by rfl) _ (by rfl) ?_ ?_
    rotate_left
    · rintro _ ⟨x, rfl⟩
      have hxr0 := r0 x
      have hxr1 := r1 x
      have hxs0 := s0 x
      have hxs1 := s1 x
      have hxs2 := s2 x
      have hxs3 := s3 x
      go_simp
      try with_reducible rfl
    try simp only [Act.put, List.setIfInBounds_toArray, List.set_cons_zero, List.set_cons_succ]
    refine' plan_take _ (by rfl) _ (by rfl) ?_ ?_
    rotate_left
    · rintro _ ⟨x, rfl⟩
      have hxr0 := r0 x
      have hxr1 := r1 x
      have hxs0 := s0 x
      have hxs1 := s1 x
      have hxs2 := s2 x
      have hxs3 := s3 x
      go_simp
      try with_reducible rfl
    try simp only [Act.put, List.setIfInBounds_toArray, List.set_cons_zero, List.set_cons_succ]
    refine' plan_take _ (by rfl) _ (by rfl) ?_ ?_
    rotate_left
    · rintro _ ⟨x, rfl⟩
      have hxr0 := r0 x
      have hxr1 := r1 x
      have hxs0 := s0 x
      have hxs1 := s1 x
      have hxs2 := s2 x
      have hxs3 := s3 x
      go_simp
      try with_reducible rfl
    try simp only [Act.put, List.setIfInBounds_toArray, List.set_cons_zero, List.set_cons_succ]
    refine' plan_take _ (by rfl) _ (by rfl) ?_ ?_
    rotate_left
    · rintro _ ⟨x, rfl⟩
      have hxr0 := r0 x
      have hxr1 := r1 x
      have hxs0 := s0 x
      have hxs1 := s1 x
      have hxs2 := s2 x
      have hxs3 := s3 x
      go_simp
      try with_reducible rfl
    try simp only [Act.put, List.setIfInBounds_toArray, List.set_cons_zero, List.set_cons_succ]
    refine plan_do _ (by rfl) (by rfl) (fun K hK => ?_)
    go_simp
    refine (HS1.out _ _ (HP8.out.2.2.2.2.below (Below.refl _ W8).drew)).mono ?_
    rintro en w9 ⟨rfl, hb9⟩
    have B9 := (Below.refl W8.heap.size W8).drew.trans hb9
    have HB9 := Lib.hid B9
    clear hb9 B9
    try go_simp
    refine hK.out _ _ (HIo.out _ fun k hk => HB9.out.block k hk) ?_
    clear hK K
    try simp only [Act.put, List.setIfInBounds_toArray, List.set_cons_zero, List.set_cons_succ]
    refine plan_do _ (by rfl) (by rfl) (fun K hK => ?_)
    go_simp
    refine (HS2.out _ _ (HP8.out.2.2.2.2.below HB9.out)).mono ?_
    rintro en w10 ⟨rfl, hb10⟩
    have B10 := HB9.out.trans (hb10.mono HB9.out.size)
    have HB10 := Lib.hid B10
    clear hb10 B10
    try go_simp
    refine hK.out _ _ (HIo.out _ fun k hk => HB10.out.block k hk) ?_
    clear hK K
    try simp only [Act.put, List.setIfInBounds_toArray, List.set_cons_zero, List.set_cons_succ]
    refine' plan_take _ (by rfl) _ (by rfl) ?_ ?_
    rotate_left
    · rintro _ ⟨x, rfl⟩
      go_simp
      try with_reducible rfl
    try simp only [Act.put, List.setIfInBounds_toArray, List.set_cons_zero, List.set_cons_succ]
    refine' plan_take _ (by rfl) _ (by rfl) ?_ ?_
    rotate_left
    · rintro _ ⟨x, rfl⟩
      go_simp
      try with_reducible rfl
    try simp only [Act.put, List.setIfInBounds_toArray, List.set_cons_zero, List.set_cons_succ]
    refine' plan_take _ (by rfl) _ (by rfl) ?_ ?_
    rotate_left
    · rintro _ ⟨x, rfl⟩
      go_simp
      try with_reducible rfl
    try simp only [Act.put, List.setIfInBounds_toArray, List.set_cons_zero, List.set_cons_succ]
    refine plan_do _ (by rfl) (by rfl) (fun K hK => ?_)
    go_simp
    try go_simp
    refine hK.out _ _ (HIo.out _ fun k hk => HB10.out.block k hk) ?_
    clear hK K
    try simp only [Act.put, List.setIfInBounds_toArray, List.set_cons_zero, List.set_cons_succ]
    refine plan_nil ?_
    go_wp2_with fail
    clear r0 r1 s0 s1 s2 s3 hI0 HIo hw1 hw2 hw3 HS1 HS2
    have hs8 := HP8.out.1.size
    have hs10 := HB10.out.size
    have hz7 := HP8.out.1
    have HB7 : Hid (Below w7.heap.size w7 w10) := Lib.hid (HP8.out.1.trans (HB10.out.mono hs8))
    have hFN : Bt.Tree (putWords S2 rr 0 (bnWords t (Bt.bn (Bt.rootOf rr m y1 y2)))) o1 t (Bt.rootOf rr m y1 y2) ∧ Bt.its (Bt.rootOf rr m y1 y2) = Bt.insB e (Bt.its x) ∧ (∀ z ∈ Bt.nodes (Bt.rootOf rr m y1 y2), z ∈ Bt.nodes x ∨ reco S z = none) ∧ (∀ z, z ∉ Bt.nodes x → reco S z ≠ none → reco (putWords S2 rr 0 (bnWords t (Bt.bn (Bt.rootOf rr m y1 y2)))) z = reco S z) ∧ Grew S (putWords S2 rr 0 (bnWords t (Bt.bn (Bt.rootOf rr m y1 y2)))) (2 * needI t e.k x) (needI t e.k x) := by
      obtain ⟨t1, t2, t3, t4, t5, t6⟩ := HT.out
      refine ⟨t1, t2, fun z hz => (t3 z hz).imp id fun hm => H6.out.2.2.2.2.2.2.1 z hm, fun z h1 h2 => (t4 z fun q => h2 (H6.out.2.2.2.2.2.2.1 z (q ▸ t6))).trans (HK.out.2.2.2.2.1 z h1 fun hm => h2 (H6.out.2.2.2.2.2.2.1 z hm)), ?_⟩
      rw [HQ.out]
      exact (HK.out.2.2.2.2.2.1.trans t5).mono (by omega) (by omega)
    have HFN := Lib.hid hFN
    obtain ⟨I, hIi, hIo⟩ : ∃ I : World → Prop, (∀ w', I w' → w'.heap[w7.heap.size]? = some (.cells #[.bool true, .int .u64 (m.kh : Nat), .int .u64 (m.vh : Nat), .int .u64 g] 276 (0, 0)) ∧ w'.heap[w.heap.size + 1]? = some (.cells #[.int .u64 0, .int .u64 0] 105 (0, 0))) ∧ (∀ w', (w'.heap[w7.heap.size]? = some (.cells #[.bool true, .int .u64 (m.kh : Nat), .int .u64 (m.vh : Nat), .int .u64 g] 276 (0, 0)) ∧ w'.heap[w.heap.size + 1]? = some (.cells #[.int .u64 0, .int .u64 0] 105 (0, 0))) → I w') := ⟨fun w' => w'.heap[w7.heap.size]? = some (.cells #[.bool true, .int .u64 (m.kh : Nat), .int .u64 (m.vh : Nat), .int .u64 g] 276 (0, 0)) ∧ w'.heap[w.heap.size + 1]? = some (.cells #[.int .u64 0, .int .u64 0] 105 (0, 0)), fun _ h => h, fun _ h => h⟩
    have hz3 := fun x : Keeps I => (hIi _ x.ok).1
    have hz4' := fun x : Keeps I => (hIi _ x.ok).2
    have s0 : ∀ x : Keeps I, x.to.cell? ⟨w7.heap.size, 0, none⟩ = some (.bool true) := fun x => by rw [cell_of_block (hz3 x)]; rfl
    have s1 : ∀ x : Keeps I, x.to.cell? ⟨w7.heap.size, 1, none⟩ = some (.int .u64 (m.kh : Nat)) := fun x => by rw [cell_of_block (hz3 x)]; rfl
    have s2 : ∀ x : Keeps I, x.to.cell? ⟨w7.heap.size, 2, none⟩ = some (.int .u64 (m.vh : Nat)) := fun x => by rw [cell_of_block (hz3 x)]; rfl
    have s3 : ∀ x : Keeps I, x.to.cell? ⟨w7.heap.size, 3, none⟩ = some (.int .u64 g) := fun x => by rw [cell_of_block (hz3 x)]; rfl
    have r0 : ∀ x : Keeps I, x.to.cell? ⟨w.heap.size + 1, 0, none⟩ = some (.int .u64 0) := fun x => by rw [cell_of_block (hz4' x)]; rfl
    have r1 : ∀ x : Keeps I, x.to.cell? ⟨w.heap.size + 1, 1, none⟩ = some (.int .u64 0) := fun x => by rw [cell_of_block (hz4' x)]; rfl
    have hJ : ∀ W, Below w10.heap.size w10 W → I W := fun W hB => hIo _ ⟨(hB.block _ (by omega)).trans ((HB10.out.block _ hp84).trans HP8.out.2.2.2.1), (hB.block _ (by omega)).trans ((HB10.out.block _ hp82).trans HP8.out.2.1)⟩
    have hI0 : I w10.drew := hJ _ (Below.refl _ w10).drew
    have hJ2 : ∀ W w', Below w10.heap.size w10 W → Keep (fun k => (((Y k ∨ (w.heap.size ≤ k ∧ k < W4.heap.size)) ∨ SpY w5.heap.size (w5.heap.size + 1) v6 k) ∨ (w7.heap.size ≤ k ∧ k < W.heap.size)) ∧ k ≠ w5.heap.size + 1) W w' → I w' := fun W w' hB hk => by
      have hsW := hB.size
      have hs7 := H7.out.2.2.2.1.size
      have hbx := (Array.getElem?_eq_some_iff.1 H7.out.2.2.2.2.1.box).1
      have h1 := hIi _ (hJ W hB)
      exact hIo _ ⟨(hk.block _ ⟨Or.inr ⟨Nat.le_refl _, by omega⟩, by omega⟩).trans h1.1, (hk.block _ ⟨Or.inl (Or.inl (Or.inr ⟨by omega, by omega⟩)), by omega⟩).trans h1.2⟩
    have hJ3 : ∀ w', I w' → I ((w'.setCell ⟨w.heap.size + 1, 0, none⟩ (.int .u64 0)).setCell ⟨w.heap.size + 1, 1, none⟩ (.int .u64 0)) := fun w' hi => hIo _ ⟨((heap_setCell_ne (by omega)).trans (heap_setCell_ne (by omega))).trans (hIi _ hi).1, heap_setCell (i := 1) (v := .int .u64 0) (heap_setCell (i := 0) (v := .int .u64 0) (hIi _ hi).2)⟩
    have HJ := Lib.hid hJ
    have HJI := Lib.hid hIi
    clear hz3 hz4' hIi hIo hz7 hFN
    refine wp_region_plan3 I (.take 0 (.take 1 (.take 2 (.take 3 (.take 5 (.take 6 (.take 7 (.take 9 (.take 10 (.take 11 (.take 13 (.take 16 (.three 4 8 12 (.two 8 12 (.go 12 (.take 14 (.go 15 (.go 17 (.go 18 (.go 19 (.go 20 .nil))))))) (.go 8 (.take 14 (.go 15 (.go 17 (.go 18 (.go 19 (.go 20 .nil)))))))) (.two 4 12 (.go 12 (.take 14 (.go 15 (.go 17 (.go 18 (.go 19 (.go 20 .nil))))))) (.go 4 (.take 14 (.go 15 (.go 17 (.go 18 (.go 19 (.go 20 .nil)))))))) (.two 4 8 (.go 8 (.take 14 (.go 15 (.go 17 (.go 18 (.go 19 (.go 20 .nil))))))) (.go 4 (.take 14 (.go 15 (.go 17 (.go 18 (.go 19 (.go 20 .nil))))))))))))))))))))) (by kernel_rfl) (by kernel_rfl) hI0 ?_
    refine' plan3_take _ (by rfl) _ (by rfl) ?_ ?_
    rotate_left
    · rintro _ ⟨x, rfl⟩
      have hxs0 := s0 x
      have hxs1 := s1 x
      have hxs2 := s2 x
      have hxs3 := s3 x
      have hxr0 := r0 x
      have hxr1 := r1 x
      go_simp
      try with_reducible rfl
    try simp only [Act.put, List.setIfInBounds_toArray, List.set_cons_zero, List.set_cons_succ]
    refine' plan3_take _ (by rfl) _ (by rfl) ?_ ?_
    rotate_left
    · rintro _ ⟨x, rfl⟩
      have hxs0 := s0 x
      have hxs1 := s1 x
      have hxs2 := s2 x
      have hxs3 := s3 x
      have hxr0 := r0 x
      have hxr1 := r1 x
      go_simp
      try with_reducible rfl
    try simp only [Act.put, List.setIfInBounds_toArray, List.set_cons_zero, List.set_cons_succ]
    refine' plan3_take _ (by rfl) _ (by rfl) ?_ ?_
    rotate_left
    · rintro _ ⟨x, rfl⟩
      have hxs0 := s0 x
      have hxs1 := s1 x
      have hxs2 := s2 x
      have hxs3 := s3 x
      have hxr0 := r0 x
      have hxr1 := r1 x
      go_simp
      try with_reducible rfl
    try simp only [Act.put, List.setIfInBounds_toArray, List.set_cons_zero, List.set_cons_succ]
    refine' plan3_take _ (by rfl) _ (by rfl) ?_ ?_
    rotate_left
    · rintro _ ⟨x, rfl⟩
      have hxs0 := s0 x
      have hxs1 := s1 x
      have hxs2 := s2 x
      have hxs3 := s3 x
      have hxr0 := r0 x
      have hxr1 := r1 x
      go_simp
      try with_reducible rfl
    try simp only [Act.put, List.setIfInBounds_toArray, List.set_cons_zero, List.set_cons_succ]
    refine' plan3_take _ (by rfl) _ (by rfl) ?_ ?_
    rotate_left
    · rintro _ ⟨x, rfl⟩
      have hxs0 := s0 x
      have hxs1 := s1 x
      have hxs2 := s2 x
      have hxs3 := s3 x
      have hxr0 := r0 x
      have hxr1 := r1 x
      go_simp
      try with_reducible rfl
    try simp only [Act.put, List.setIfInBounds_toArray, List.set_cons_zero, List.set_cons_succ]
    refine' plan3_take _ (by rfl) _ (by rfl) ?_ ?_
    rotate_left
    · rintro _ ⟨x, rfl⟩
      have hxs0 := s0 x
      have hxs1 := s1 x
      have hxs2 := s2 x
      have hxs3 := s3 x
      have hxr0 := r0 x
      have hxr1 := r1 x
      go_simp
      try with_reducible rfl
    try simp only [Act.put, List.setIfInBounds_toArray, List.set_cons_zero, List.set_cons_succ]
    refine' plan3_take _ (by rfl) _ (by rfl) ?_ ?_
    rotate_left
    · rintro _ ⟨x, rfl⟩
      have hxs0 := s0 x
      have hxs1 := s1 x
      have hxs2 := s2 x
      have hxs3 := s3 x
      have hxr0 := r0 x
      have hxr1 := r1 x
      go_simp
      try with_reducible rfl
    try simp only [Act.put, List.setIfInBounds_toArray, List.set_cons_zero, List.set_cons_succ]
    refine' plan3_take _ (by rfl) _ (by rfl) ?_ ?_
    rotate_left
    · rintro _ ⟨x, rfl⟩
      have hxs0 := s0 x
      have hxs1 := s1 x
      have hxs2 := s2 x
      have hxs3 := s3 x
      have hxr0 := r0 x
      have hxr1 := r1 x
      go_simp
      try with_reducible rfl
    try simp only [Act.put, List.setIfInBounds_toArray, List.set_cons_zero, List.set_cons_succ]
    refine' plan3_take _ (by rfl) _ (by rfl) ?_ ?_
    rotate_left
    · rintro _ ⟨x, rfl⟩
      have hxs0 := s0 x
      have hxs1 := s1 x
      have hxs2 := s2 x
      have hxs3 := s3 x
      have hxr0 := r0 x
      have hxr1 := r1 x
      go_simp
      try with_reducible rfl
    try simp only [Act.put, List.setIfInBounds_toArray, List.set_cons_zero, List.set_cons_succ]
    refine' plan3_take _ (by rfl) _ (by rfl) ?_ ?_
    rotate_left
    · rintro _ ⟨x, rfl⟩
      have hxs0 := s0 x
      have hxs1 := s1 x
      have hxs2 := s2 x
      have hxs3 := s3 x
      have hxr0 := r0 x
      have hxr1 := r1 x
      go_simp
      try with_reducible rfl
    try simp only [Act.put, List.setIfInBounds_toArray, List.set_cons_zero, List.set_cons_succ]
    refine' plan3_take _ (by rfl) _ (by rfl) ?_ ?_
    rotate_left
    · rintro _ ⟨x, rfl⟩
      have hxs0 := s0 x
      have hxs1 := s1 x
      have hxs2 := s2 x
      have hxs3 := s3 x
      have hxr0 := r0 x
      have hxr1 := r1 x
      go_simp
      try with_reducible rfl
    try simp only [Act.put, List.setIfInBounds_toArray, List.set_cons_zero, List.set_cons_succ]
    refine' plan3_take _ (by rfl) _ (by rfl) ?_ ?_
    rotate_left
    · rintro _ ⟨x, rfl⟩
      have hxs0 := s0 x
      have hxs1 := s1 x
      have hxs2 := s2 x
      have hxs3 := s3 x
      have hxr0 := r0 x
      have hxr1 := r1 x
      go_simp
      try with_reducible rfl
    try simp only [Act.put, List.setIfInBounds_toArray, List.set_cons_zero, List.set_cons_succ]
    clear s0 s1 s2 s3 r0 r1
    refine plan3_three ?_ ?_ ?_
    · have T4 := three_alloc w10 (.cells #[.int .u64 (m.kh : Nat)] 43) (.cells #[.int .u64 (m.kh : Nat)] 43) (.cells #[.int .u64 (m.kh : Nat)] 43)
      refine plan3_do _ (by rfl) (by rfl) (fun K hK => ?_)
      go_simp
      try go_simp
      refine hK.out _ _ (HJ.out _ T4.1) ?_
      clear hK K
      try simp only [Act.put, List.setIfInBounds_toArray, List.set_cons_zero, List.set_cons_succ]
      clear T4
      refine plan3_two ?_ ?_
      · have T4 := three_alloc w10 (.cells #[.int .u64 (m.kh : Nat)] 43) (.cells #[.int .u64 (m.vh : Nat)] 43) (.cells #[.int .u64 (Bt.hd x : Nat), .int .u64 g] 43)
        refine plan3_do _ (by rfl) (by rfl) (fun K hK => ?_)
        go_simp
        try go_simp
        refine hK.out _ _ (HJ.out _ T4.2.1) ?_
        clear hK K
        try simp only [Act.put, List.setIfInBounds_toArray, List.set_cons_zero, List.set_cons_succ]
        refine plan3_do _ (by rfl) (by rfl) (fun K hK => ?_)
        go_simp
        try go_simp
        refine hK.out _ _ (HJ.out _ T4.2.2.1) ?_
        clear hK K
        try simp only [Act.put, List.setIfInBounds_toArray, List.set_cons_zero, List.set_cons_succ]
        refine' plan3_take _ (by rfl) _ (by rfl) ?_ ?_
        rotate_left
        · rintro _ ⟨x, rfl⟩
          go_simp
          try with_reducible rfl
        try simp only [Act.put, List.setIfInBounds_toArray, List.set_cons_zero, List.set_cons_succ]
        refine plan3_do _ (by rfl) (by rfl) (fun K hK => ?_)
        go_simp
        refine (HA.out _ w10.heap.size (w10.heap.size + 1) (w10.heap.size + 2) (HB7.out.trans (T4.2.2.1.mono (by omega))) (by omega) (by omega) (by omega) T4.2.2.2.1 T4.2.2.2.2.1 T4.2.2.2.2.2).mono ?_
        rintro en w11 ⟨rfl, v11, st11, kp11, sp11, own11⟩
        have hsW := T4.2.2.1.size
        have hI11 : I w11 := hJ2 _ _ T4.2.2.1 kp11
        have hold := (HJI.out _ hI11).2
        have kF : Keep Y w w11 := (HK.out.1.trans (Keep.of_below (HB7.out.trans (T4.2.2.1.mono (by omega))) fun k hk => by have := HK.out.2.2.2.2.2.2 k hk; have := HK.out.1.size; omega)).trans (kp11.mono fun k hk => ⟨Or.inl (Or.inl (Or.inl hk)), by have := HK.out.2.2.2.2.2.2 k hk; omega⟩)
        have x0 : (w11).cell? ⟨w.heap.size + 1, 0, none⟩ = some (.int .u64 0) := by rw [cell_of_block hold]; rfl
        have x1 : (w11).cell? ⟨w.heap.size + 1, 1, none⟩ = some (.int .u64 0) := by rw [cell_of_block hold]; rfl
        have f0 : (w11).frozen? ⟨w.heap.size + 1, 0, none⟩ = false := frozen_of_block hold
        have f1 : (w11).frozen? ⟨w.heap.size + 1, 1, none⟩ = false := frozen_of_block hold
        have H11 := Lib.hid (And.intro hold (And.intro st11 kF))
        clear kp11 sp11 own11 hold st11 kF T4
        try go_simp
        refine hK.out _ _ (hI11) ?_
        clear hK K
        try simp only [Act.put, List.setIfInBounds_toArray, List.set_cons_zero, List.set_cons_succ]
        refine plan3_do _ (by rfl) (by rfl) (fun K hK => ?_)
        go_simp
        try go_simp
        refine hK.out _ _ (hI11) ?_
        clear hK K
        try simp only [Act.put, List.setIfInBounds_toArray, List.set_cons_zero, List.set_cons_succ]
        refine plan3_do _ (by rfl) (by rfl) (fun K hK => ?_)
        go_simp
        try go_simp
        refine hK.out _ _ (hJ3 _ hI11) ?_
        clear hK K
        try simp only [Act.put, List.setIfInBounds_toArray, List.set_cons_zero, List.set_cons_succ]
        refine plan3_do _ (by rfl) (by rfl) (fun K hK => ?_)
        go_simp
        try go_simp
        refine hK.out _ _ (hJ3 _ hI11) ?_
        clear hK K
        try simp only [Act.put, List.setIfInBounds_toArray, List.set_cons_zero, List.set_cons_succ]
        refine plan3_do _ (by rfl) (by rfl) (fun K hK => ?_)
        go_simp
        try go_simp
        refine hK.out _ _ (hJ3 _ hI11) ?_
        clear hK K
        try simp only [Act.put, List.setIfInBounds_toArray, List.set_cons_zero, List.set_cons_succ]
        refine plan3_nil ?_
        go_wp2_with fail
        obtain ⟨WF, hWF⟩ : ∃ WF, ((w11.setCell ⟨w.heap.size + 1, 0, none⟩ (.int .u64 0)).setCell ⟨w.heap.size + 1, 1, none⟩ (.int .u64 0)) = WF := ⟨_, rfl⟩
        rw [hWF]
        have eF : WF.heap[w.heap.size + 1]? = some (.cells #[.int .u64 0, .int .u64 0] 105 (0, 0)) := by
          rw [← hWF]
          exact heap_setCell (i := 1) (v := .int .u64 0) (heap_setCell (i := 0) (v := .int .u64 0) H11.out.1)
        have stF : StOn WF ps (putWords S2 rr 0 (bnWords t (Bt.bn (Bt.rootOf rr m y1 y2)))) Y := by
          rw [← hWF]
          exact (H11.out.2.1.write (b := w.heap.size + 1) (Or.inl (Or.inl (Or.inr ⟨by omega, by omega⟩))) H11.out.1 ⟨by decide, by decide⟩ (by simp) (by simp) fun k _ hk => (heap_setCell_ne hk).trans (heap_setCell_ne hk)).mono fun k hk => Or.inl (Or.inl (Or.inl hk))
        have kF : Keep Y w WF := by
          rw [← hWF]
          have hne : ∀ k, Y k → k ≠ w.heap.size + 1 := fun k hk => by have := HK.out.2.2.2.2.2.2 k hk; omega
          exact (H11.out.2.2.trans (Keep.mark hne)).trans (Keep.mark hne)
        clear hWF x0 x1 f0 f1
        have u0 : (WF).cell? ⟨w.heap.size + 1, 0, none⟩ = some (.int .u64 0) := by rw [cell_of_block eF]; rfl
        have u1 : (WF).cell? ⟨w.heap.size + 1, 1, none⟩ = some (.int .u64 0) := by rw [cell_of_block eF]; rfl
        exact bodyPost_ret (v := .tuple #[.int .u64 (rr : Nat), .agg #[.int .u64 0, .int .u64 0], .bool false, .int .i64 0]) (by simp [results, Tryz.f144, go_sem, u0, u1]) rfl ⟨d + 1, Bt.rootOf rr m y1 y2, _, o1, rfl, stF, kF, HFN.out⟩
      · have T4 := three_alloc w10 (.cells #[.int .u64 (m.kh : Nat)] 43) (.cells #[.int .u64 (Bt.hd x : Nat), .int .u64 g] 43) (.cells #[.int .u64 (m.vh : Nat)] 43)
        refine plan3_do _ (by rfl) (by rfl) (fun K hK => ?_)
        go_simp
        try go_simp
        refine hK.out _ _ (HJ.out _ T4.2.1) ?_
        clear hK K
        try simp only [Act.put, List.setIfInBounds_toArray, List.set_cons_zero, List.set_cons_succ]
        refine plan3_do _ (by rfl) (by rfl) (fun K hK => ?_)
        go_simp
        try go_simp
        refine hK.out _ _ (HJ.out _ T4.2.2.1) ?_
        clear hK K
        try simp only [Act.put, List.setIfInBounds_toArray, List.set_cons_zero, List.set_cons_succ]
        refine' plan3_take _ (by rfl) _ (by rfl) ?_ ?_
        rotate_left
        · rintro _ ⟨x, rfl⟩
          go_simp
          try with_reducible rfl
        try simp only [Act.put, List.setIfInBounds_toArray, List.set_cons_zero, List.set_cons_succ]
        refine plan3_do _ (by rfl) (by rfl) (fun K hK => ?_)
        go_simp
        refine (HA.out _ w10.heap.size (w10.heap.size + 2) (w10.heap.size + 1) (HB7.out.trans (T4.2.2.1.mono (by omega))) (by omega) (by omega) (by omega) T4.2.2.2.1 T4.2.2.2.2.2 T4.2.2.2.2.1).mono ?_
        rintro en w11 ⟨rfl, v11, st11, kp11, sp11, own11⟩
        have hsW := T4.2.2.1.size
        have hI11 : I w11 := hJ2 _ _ T4.2.2.1 kp11
        have hold := (HJI.out _ hI11).2
        have kF : Keep Y w w11 := (HK.out.1.trans (Keep.of_below (HB7.out.trans (T4.2.2.1.mono (by omega))) fun k hk => by have := HK.out.2.2.2.2.2.2 k hk; have := HK.out.1.size; omega)).trans (kp11.mono fun k hk => ⟨Or.inl (Or.inl (Or.inl hk)), by have := HK.out.2.2.2.2.2.2 k hk; omega⟩)
        have x0 : (w11).cell? ⟨w.heap.size + 1, 0, none⟩ = some (.int .u64 0) := by rw [cell_of_block hold]; rfl
        have x1 : (w11).cell? ⟨w.heap.size + 1, 1, none⟩ = some (.int .u64 0) := by rw [cell_of_block hold]; rfl
        have f0 : (w11).frozen? ⟨w.heap.size + 1, 0, none⟩ = false := frozen_of_block hold
        have f1 : (w11).frozen? ⟨w.heap.size + 1, 1, none⟩ = false := frozen_of_block hold
        have H11 := Lib.hid (And.intro hold (And.intro st11 kF))
        clear kp11 sp11 own11 hold st11 kF T4
        try go_simp
        refine hK.out _ _ (hI11) ?_
        clear hK K
        try simp only [Act.put, List.setIfInBounds_toArray, List.set_cons_zero, List.set_cons_succ]
        refine plan3_do _ (by rfl) (by rfl) (fun K hK => ?_)
        go_simp
        try go_simp
        refine hK.out _ _ (hI11) ?_
        clear hK K
        try simp only [Act.put, List.setIfInBounds_toArray, List.set_cons_zero, List.set_cons_succ]
        refine plan3_do _ (by rfl) (by rfl) (fun K hK => ?_)
        go_simp
        try go_simp
        refine hK.out _ _ (hJ3 _ hI11) ?_
        clear hK K
        try simp only [Act.put, List.setIfInBounds_toArray, List.set_cons_zero, List.set_cons_succ]
        refine plan3_do _ (by rfl) (by rfl) (fun K hK => ?_)
        go_simp
        try go_simp
        refine hK.out _ _ (hJ3 _ hI11) ?_
        clear hK K
        try simp only [Act.put, List.setIfInBounds_toArray, List.set_cons_zero, List.set_cons_succ]
        refine plan3_do _ (by rfl) (by rfl) (fun K hK => ?_)
        go_simp
        try go_simp
        refine hK.out _ _ (hJ3 _ hI11) ?_
        clear hK K
        try simp only [Act.put, List.setIfInBounds_toArray, List.set_cons_zero, List.set_cons_succ]
        refine plan3_nil ?_
        go_wp2_with fail
        obtain ⟨WF, hWF⟩ : ∃ WF, ((w11.setCell ⟨w.heap.size + 1, 0, none⟩ (.int .u64 0)).setCell ⟨w.heap.size + 1, 1, none⟩ (.int .u64 0)) = WF := ⟨_, rfl⟩
        rw [hWF]
        have eF : WF.heap[w.heap.size + 1]? = some (.cells #[.int .u64 0, .int .u64 0] 105 (0, 0)) := by
          rw [← hWF]
          exact heap_setCell (i := 1) (v := .int .u64 0) (heap_setCell (i := 0) (v := .int .u64 0) H11.out.1)
        have stF : StOn WF ps (putWords S2 rr 0 (bnWords t (Bt.bn (Bt.rootOf rr m y1 y2)))) Y := by
          rw [← hWF]
          exact (H11.out.2.1.write (b := w.heap.size + 1) (Or.inl (Or.inl (Or.inr ⟨by omega, by omega⟩))) H11.out.1 ⟨by decide, by decide⟩ (by simp) (by simp) fun k _ hk => (heap_setCell_ne hk).trans (heap_setCell_ne hk)).mono fun k hk => Or.inl (Or.inl (Or.inl hk))
        have kF : Keep Y w WF := by
          rw [← hWF]
          have hne : ∀ k, Y k → k ≠ w.heap.size + 1 := fun k hk => by have := HK.out.2.2.2.2.2.2 k hk; omega
          exact (H11.out.2.2.trans (Keep.mark hne)).trans (Keep.mark hne)
        clear hWF x0 x1 f0 f1
        have u0 : (WF).cell? ⟨w.heap.size + 1, 0, none⟩ = some (.int .u64 0) := by rw [cell_of_block eF]; rfl
        have u1 : (WF).cell? ⟨w.heap.size + 1, 1, none⟩ = some (.int .u64 0) := by rw [cell_of_block eF]; rfl
        exact bodyPost_ret (v := .tuple #[.int .u64 (rr : Nat), .agg #[.int .u64 0, .int .u64 0], .bool false, .int .i64 0]) (by simp [results, Tryz.f144, go_sem, u0, u1]) rfl ⟨d + 1, Bt.rootOf rr m y1 y2, _, o1, rfl, stF, kF, HFN.out⟩
    · have T4 := three_alloc w10 (.cells #[.int .u64 (m.vh : Nat)] 43) (.cells #[.int .u64 (m.vh : Nat)] 43) (.cells #[.int .u64 (m.vh : Nat)] 43)
      refine plan3_do _ (by rfl) (by rfl) (fun K hK => ?_)
      go_simp
      try go_simp
      refine hK.out _ _ (HJ.out _ T4.1) ?_
      clear hK K
      try simp only [Act.put, List.setIfInBounds_toArray, List.set_cons_zero, List.set_cons_succ]
      clear T4
      refine plan3_two ?_ ?_
      · have T4 := three_alloc w10 (.cells #[.int .u64 (m.vh : Nat)] 43) (.cells #[.int .u64 (m.kh : Nat)] 43) (.cells #[.int .u64 (Bt.hd x : Nat), .int .u64 g] 43)
        refine plan3_do _ (by rfl) (by rfl) (fun K hK => ?_)
        go_simp
        try go_simp
        refine hK.out _ _ (HJ.out _ T4.2.1) ?_
        clear hK K
        try simp only [Act.put, List.setIfInBounds_toArray, List.set_cons_zero, List.set_cons_succ]
        refine plan3_do _ (by rfl) (by rfl) (fun K hK => ?_)
        go_simp
        try go_simp
        refine hK.out _ _ (HJ.out _ T4.2.2.1) ?_
        clear hK K
        try simp only [Act.put, List.setIfInBounds_toArray, List.set_cons_zero, List.set_cons_succ]
        refine' plan3_take _ (by rfl) _ (by rfl) ?_ ?_
        rotate_left
        · rintro _ ⟨x, rfl⟩
          go_simp
          try with_reducible rfl
        try simp only [Act.put, List.setIfInBounds_toArray, List.set_cons_zero, List.set_cons_succ]
        refine plan3_do _ (by rfl) (by rfl) (fun K hK => ?_)
        go_simp
        refine (HA.out _ (w10.heap.size + 1) w10.heap.size (w10.heap.size + 2) (HB7.out.trans (T4.2.2.1.mono (by omega))) (by omega) (by omega) (by omega) T4.2.2.2.2.1 T4.2.2.2.1 T4.2.2.2.2.2).mono ?_
        rintro en w11 ⟨rfl, v11, st11, kp11, sp11, own11⟩
        have hsW := T4.2.2.1.size
        have hI11 : I w11 := hJ2 _ _ T4.2.2.1 kp11
        have hold := (HJI.out _ hI11).2
        have kF : Keep Y w w11 := (HK.out.1.trans (Keep.of_below (HB7.out.trans (T4.2.2.1.mono (by omega))) fun k hk => by have := HK.out.2.2.2.2.2.2 k hk; have := HK.out.1.size; omega)).trans (kp11.mono fun k hk => ⟨Or.inl (Or.inl (Or.inl hk)), by have := HK.out.2.2.2.2.2.2 k hk; omega⟩)
        have x0 : (w11).cell? ⟨w.heap.size + 1, 0, none⟩ = some (.int .u64 0) := by rw [cell_of_block hold]; rfl
        have x1 : (w11).cell? ⟨w.heap.size + 1, 1, none⟩ = some (.int .u64 0) := by rw [cell_of_block hold]; rfl
        have f0 : (w11).frozen? ⟨w.heap.size + 1, 0, none⟩ = false := frozen_of_block hold
        have f1 : (w11).frozen? ⟨w.heap.size + 1, 1, none⟩ = false := frozen_of_block hold
        have H11 := Lib.hid (And.intro hold (And.intro st11 kF))
        clear kp11 sp11 own11 hold st11 kF T4
        try go_simp
        refine hK.out _ _ (hI11) ?_
        clear hK K
        try simp only [Act.put, List.setIfInBounds_toArray, List.set_cons_zero, List.set_cons_succ]
        refine plan3_do _ (by rfl) (by rfl) (fun K hK => ?_)
        go_simp
        try go_simp
        refine hK.out _ _ (hI11) ?_
        clear hK K
        try simp only [Act.put, List.setIfInBounds_toArray, List.set_cons_zero, List.set_cons_succ]
        refine plan3_do _ (by rfl) (by rfl) (fun K hK => ?_)
        go_simp
        try go_simp
        refine hK.out _ _ (hJ3 _ hI11) ?_
        clear hK K
        try simp only [Act.put, List.setIfInBounds_toArray, List.set_cons_zero, List.set_cons_succ]
        refine plan3_do _ (by rfl) (by rfl) (fun K hK => ?_)
        go_simp
        try go_simp
        refine hK.out _ _ (hJ3 _ hI11) ?_
        clear hK K
        try simp only [Act.put, List.setIfInBounds_toArray, List.set_cons_zero, List.set_cons_succ]
        refine plan3_do _ (by rfl) (by rfl) (fun K hK => ?_)
        go_simp
        try go_simp
        refine hK.out _ _ (hJ3 _ hI11) ?_
        clear hK K
        try simp only [Act.put, List.setIfInBounds_toArray, List.set_cons_zero, List.set_cons_succ]
        refine plan3_nil ?_
        go_wp2_with fail
        obtain ⟨WF, hWF⟩ : ∃ WF, ((w11.setCell ⟨w.heap.size + 1, 0, none⟩ (.int .u64 0)).setCell ⟨w.heap.size + 1, 1, none⟩ (.int .u64 0)) = WF := ⟨_, rfl⟩
        rw [hWF]
        have eF : WF.heap[w.heap.size + 1]? = some (.cells #[.int .u64 0, .int .u64 0] 105 (0, 0)) := by
          rw [← hWF]
          exact heap_setCell (i := 1) (v := .int .u64 0) (heap_setCell (i := 0) (v := .int .u64 0) H11.out.1)
        have stF : StOn WF ps (putWords S2 rr 0 (bnWords t (Bt.bn (Bt.rootOf rr m y1 y2)))) Y := by
          rw [← hWF]
          exact (H11.out.2.1.write (b := w.heap.size + 1) (Or.inl (Or.inl (Or.inr ⟨by omega, by omega⟩))) H11.out.1 ⟨by decide, by decide⟩ (by simp) (by simp) fun k _ hk => (heap_setCell_ne hk).trans (heap_setCell_ne hk)).mono fun k hk => Or.inl (Or.inl (Or.inl hk))
        have kF : Keep Y w WF := by
          rw [← hWF]
          have hne : ∀ k, Y k → k ≠ w.heap.size + 1 := fun k hk => by have := HK.out.2.2.2.2.2.2 k hk; omega
          exact (H11.out.2.2.trans (Keep.mark hne)).trans (Keep.mark hne)
        clear hWF x0 x1 f0 f1
        have u0 : (WF).cell? ⟨w.heap.size + 1, 0, none⟩ = some (.int .u64 0) := by rw [cell_of_block eF]; rfl
        have u1 : (WF).cell? ⟨w.heap.size + 1, 1, none⟩ = some (.int .u64 0) := by rw [cell_of_block eF]; rfl
        exact bodyPost_ret (v := .tuple #[.int .u64 (rr : Nat), .agg #[.int .u64 0, .int .u64 0], .bool false, .int .i64 0]) (by simp [results, Tryz.f144, go_sem, u0, u1]) rfl ⟨d + 1, Bt.rootOf rr m y1 y2, _, o1, rfl, stF, kF, HFN.out⟩
      · have T4 := three_alloc w10 (.cells #[.int .u64 (m.vh : Nat)] 43) (.cells #[.int .u64 (Bt.hd x : Nat), .int .u64 g] 43) (.cells #[.int .u64 (m.kh : Nat)] 43)
        refine plan3_do _ (by rfl) (by rfl) (fun K hK => ?_)
        go_simp
        try go_simp
        refine hK.out _ _ (HJ.out _ T4.2.1) ?_
        clear hK K
        try simp only [Act.put, List.setIfInBounds_toArray, List.set_cons_zero, List.set_cons_succ]
        refine plan3_do _ (by rfl) (by rfl) (fun K hK => ?_)
        go_simp
        try go_simp
        refine hK.out _ _ (HJ.out _ T4.2.2.1) ?_
        clear hK K
        try simp only [Act.put, List.setIfInBounds_toArray, List.set_cons_zero, List.set_cons_succ]
        refine' plan3_take _ (by rfl) _ (by rfl) ?_ ?_
        rotate_left
        · rintro _ ⟨x, rfl⟩
          go_simp
          try with_reducible rfl
        try simp only [Act.put, List.setIfInBounds_toArray, List.set_cons_zero, List.set_cons_succ]
        refine plan3_do _ (by rfl) (by rfl) (fun K hK => ?_)
        go_simp
        refine (HA.out _ (w10.heap.size + 2) w10.heap.size (w10.heap.size + 1) (HB7.out.trans (T4.2.2.1.mono (by omega))) (by omega) (by omega) (by omega) T4.2.2.2.2.2 T4.2.2.2.1 T4.2.2.2.2.1).mono ?_
        rintro en w11 ⟨rfl, v11, st11, kp11, sp11, own11⟩
        have hsW := T4.2.2.1.size
        have hI11 : I w11 := hJ2 _ _ T4.2.2.1 kp11
        have hold := (HJI.out _ hI11).2
        have kF : Keep Y w w11 := (HK.out.1.trans (Keep.of_below (HB7.out.trans (T4.2.2.1.mono (by omega))) fun k hk => by have := HK.out.2.2.2.2.2.2 k hk; have := HK.out.1.size; omega)).trans (kp11.mono fun k hk => ⟨Or.inl (Or.inl (Or.inl hk)), by have := HK.out.2.2.2.2.2.2 k hk; omega⟩)
        have x0 : (w11).cell? ⟨w.heap.size + 1, 0, none⟩ = some (.int .u64 0) := by rw [cell_of_block hold]; rfl
        have x1 : (w11).cell? ⟨w.heap.size + 1, 1, none⟩ = some (.int .u64 0) := by rw [cell_of_block hold]; rfl
        have f0 : (w11).frozen? ⟨w.heap.size + 1, 0, none⟩ = false := frozen_of_block hold
        have f1 : (w11).frozen? ⟨w.heap.size + 1, 1, none⟩ = false := frozen_of_block hold
        have H11 := Lib.hid (And.intro hold (And.intro st11 kF))
        clear kp11 sp11 own11 hold st11 kF T4
        try go_simp
        refine hK.out _ _ (hI11) ?_
        clear hK K
        try simp only [Act.put, List.setIfInBounds_toArray, List.set_cons_zero, List.set_cons_succ]
        refine plan3_do _ (by rfl) (by rfl) (fun K hK => ?_)
        go_simp
        try go_simp
        refine hK.out _ _ (hI11) ?_
        clear hK K
        try simp only [Act.put, List.setIfInBounds_toArray, List.set_cons_zero, List.set_cons_succ]
        refine plan3_do _ (by rfl) (by rfl) (fun K hK => ?_)
        go_simp
        try go_simp
        refine hK.out _ _ (hJ3 _ hI11) ?_
        clear hK K
        try simp only [Act.put, List.setIfInBounds_toArray, List.set_cons_zero, List.set_cons_succ]
        refine plan3_do _ (by rfl) (by rfl) (fun K hK => ?_)
        go_simp
        try go_simp
        refine hK.out _ _ (hJ3 _ hI11) ?_
        clear hK K
        try simp only [Act.put, List.setIfInBounds_toArray, List.set_cons_zero, List.set_cons_succ]
        refine plan3_do _ (by rfl) (by rfl) (fun K hK => ?_)
        go_simp
        try go_simp
        refine hK.out _ _ (hJ3 _ hI11) ?_
        clear hK K
        try simp only [Act.put, List.setIfInBounds_toArray, List.set_cons_zero, List.set_cons_succ]
        refine plan3_nil ?_
        go_wp2_with fail
        obtain ⟨WF, hWF⟩ : ∃ WF, ((w11.setCell ⟨w.heap.size + 1, 0, none⟩ (.int .u64 0)).setCell ⟨w.heap.size + 1, 1, none⟩ (.int .u64 0)) = WF := ⟨_, rfl⟩
        rw [hWF]
        have eF : WF.heap[w.heap.size + 1]? = some (.cells #[.int .u64 0, .int .u64 0] 105 (0, 0)) := by
          rw [← hWF]
          exact heap_setCell (i := 1) (v := .int .u64 0) (heap_setCell (i := 0) (v := .int .u64 0) H11.out.1)
        have stF : StOn WF ps (putWords S2 rr 0 (bnWords t (Bt.bn (Bt.rootOf rr m y1 y2)))) Y := by
          rw [← hWF]
          exact (H11.out.2.1.write (b := w.heap.size + 1) (Or.inl (Or.inl (Or.inr ⟨by omega, by omega⟩))) H11.out.1 ⟨by decide, by decide⟩ (by simp) (by simp) fun k _ hk => (heap_setCell_ne hk).trans (heap_setCell_ne hk)).mono fun k hk => Or.inl (Or.inl (Or.inl hk))
        have kF : Keep Y w WF := by
          rw [← hWF]
          have hne : ∀ k, Y k → k ≠ w.heap.size + 1 := fun k hk => by have := HK.out.2.2.2.2.2.2 k hk; omega
          exact (H11.out.2.2.trans (Keep.mark hne)).trans (Keep.mark hne)
        clear hWF x0 x1 f0 f1
        have u0 : (WF).cell? ⟨w.heap.size + 1, 0, none⟩ = some (.int .u64 0) := by rw [cell_of_block eF]; rfl
        have u1 : (WF).cell? ⟨w.heap.size + 1, 1, none⟩ = some (.int .u64 0) := by rw [cell_of_block eF]; rfl
        exact bodyPost_ret (v := .tuple #[.int .u64 (rr : Nat), .agg #[.int .u64 0, .int .u64 0], .bool false, .int .i64 0]) (by simp [results, Tryz.f144, go_sem, u0, u1]) rfl ⟨d + 1, Bt.rootOf rr m y1 y2, _, o1, rfl, stF, kF, HFN.out⟩
    · have T4 := three_alloc w10 (.cells #[.int .u64 (Bt.hd x : Nat), .int .u64 g] 43) (.cells #[.int .u64 (Bt.hd x : Nat), .int .u64 g] 43) (.cells #[.int .u64 (Bt.hd x : Nat), .int .u64 g] 43)
      refine plan3_do _ (by rfl) (by rfl) (fun K hK => ?_)
      go_simp
      try go_simp
      refine hK.out _ _ (HJ.out _ T4.1) ?_
      clear hK K
      try simp only [Act.put, List.setIfInBounds_toArray, List.set_cons_zero, List.set_cons_succ]
      clear T4
      refine plan3_two ?_ ?_
      · have T4 := three_alloc w10 (.cells #[.int .u64 (Bt.hd x : Nat), .int .u64 g] 43) (.cells #[.int .u64 (m.kh : Nat)] 43) (.cells #[.int .u64 (m.vh : Nat)] 43)
        refine plan3_do _ (by rfl) (by rfl) (fun K hK => ?_)
        go_simp
        try go_simp
        refine hK.out _ _ (HJ.out _ T4.2.1) ?_
        clear hK K
        try simp only [Act.put, List.setIfInBounds_toArray, List.set_cons_zero, List.set_cons_succ]
        refine plan3_do _ (by rfl) (by rfl) (fun K hK => ?_)
        go_simp
        try go_simp
        refine hK.out _ _ (HJ.out _ T4.2.2.1) ?_
        clear hK K
        try simp only [Act.put, List.setIfInBounds_toArray, List.set_cons_zero, List.set_cons_succ]
        refine' plan3_take _ (by rfl) _ (by rfl) ?_ ?_
        rotate_left
        · rintro _ ⟨x, rfl⟩
          go_simp
          try with_reducible rfl
        try simp only [Act.put, List.setIfInBounds_toArray, List.set_cons_zero, List.set_cons_succ]
        refine plan3_do _ (by rfl) (by rfl) (fun K hK => ?_)
        go_simp
        refine (HA.out _ (w10.heap.size + 1) (w10.heap.size + 2) w10.heap.size (HB7.out.trans (T4.2.2.1.mono (by omega))) (by omega) (by omega) (by omega) T4.2.2.2.2.1 T4.2.2.2.2.2 T4.2.2.2.1).mono ?_
        rintro en w11 ⟨rfl, v11, st11, kp11, sp11, own11⟩
        have hsW := T4.2.2.1.size
        have hI11 : I w11 := hJ2 _ _ T4.2.2.1 kp11
        have hold := (HJI.out _ hI11).2
        have kF : Keep Y w w11 := (HK.out.1.trans (Keep.of_below (HB7.out.trans (T4.2.2.1.mono (by omega))) fun k hk => by have := HK.out.2.2.2.2.2.2 k hk; have := HK.out.1.size; omega)).trans (kp11.mono fun k hk => ⟨Or.inl (Or.inl (Or.inl hk)), by have := HK.out.2.2.2.2.2.2 k hk; omega⟩)
        have x0 : (w11).cell? ⟨w.heap.size + 1, 0, none⟩ = some (.int .u64 0) := by rw [cell_of_block hold]; rfl
        have x1 : (w11).cell? ⟨w.heap.size + 1, 1, none⟩ = some (.int .u64 0) := by rw [cell_of_block hold]; rfl
        have f0 : (w11).frozen? ⟨w.heap.size + 1, 0, none⟩ = false := frozen_of_block hold
        have f1 : (w11).frozen? ⟨w.heap.size + 1, 1, none⟩ = false := frozen_of_block hold
        have H11 := Lib.hid (And.intro hold (And.intro st11 kF))
        clear kp11 sp11 own11 hold st11 kF T4
        try go_simp
        refine hK.out _ _ (hI11) ?_
        clear hK K
        try simp only [Act.put, List.setIfInBounds_toArray, List.set_cons_zero, List.set_cons_succ]
        refine plan3_do _ (by rfl) (by rfl) (fun K hK => ?_)
        go_simp
        try go_simp
        refine hK.out _ _ (hI11) ?_
        clear hK K
        try simp only [Act.put, List.setIfInBounds_toArray, List.set_cons_zero, List.set_cons_succ]
        refine plan3_do _ (by rfl) (by rfl) (fun K hK => ?_)
        go_simp
        try go_simp
        refine hK.out _ _ (hJ3 _ hI11) ?_
        clear hK K
        try simp only [Act.put, List.setIfInBounds_toArray, List.set_cons_zero, List.set_cons_succ]
        refine plan3_do _ (by rfl) (by rfl) (fun K hK => ?_)
        go_simp
        try go_simp
        refine hK.out _ _ (hJ3 _ hI11) ?_
        clear hK K
        try simp only [Act.put, List.setIfInBounds_toArray, List.set_cons_zero, List.set_cons_succ]
        refine plan3_do _ (by rfl) (by rfl) (fun K hK => ?_)
        go_simp
        try go_simp
        refine hK.out _ _ (hJ3 _ hI11) ?_
        clear hK K
        try simp only [Act.put, List.setIfInBounds_toArray, List.set_cons_zero, List.set_cons_succ]
        refine plan3_nil ?_
        go_wp2_with fail
        obtain ⟨WF, hWF⟩ : ∃ WF, ((w11.setCell ⟨w.heap.size + 1, 0, none⟩ (.int .u64 0)).setCell ⟨w.heap.size + 1, 1, none⟩ (.int .u64 0)) = WF := ⟨_, rfl⟩
        rw [hWF]
        have eF : WF.heap[w.heap.size + 1]? = some (.cells #[.int .u64 0, .int .u64 0] 105 (0, 0)) := by
          rw [← hWF]
          exact heap_setCell (i := 1) (v := .int .u64 0) (heap_setCell (i := 0) (v := .int .u64 0) H11.out.1)
        have stF : StOn WF ps (putWords S2 rr 0 (bnWords t (Bt.bn (Bt.rootOf rr m y1 y2)))) Y := by
          rw [← hWF]
          exact (H11.out.2.1.write (b := w.heap.size + 1) (Or.inl (Or.inl (Or.inr ⟨by omega, by omega⟩))) H11.out.1 ⟨by decide, by decide⟩ (by simp) (by simp) fun k _ hk => (heap_setCell_ne hk).trans (heap_setCell_ne hk)).mono fun k hk => Or.inl (Or.inl (Or.inl hk))
        have kF : Keep Y w WF := by
          rw [← hWF]
          have hne : ∀ k, Y k → k ≠ w.heap.size + 1 := fun k hk => by have := HK.out.2.2.2.2.2.2 k hk; omega
          exact (H11.out.2.2.trans (Keep.mark hne)).trans (Keep.mark hne)
        clear hWF x0 x1 f0 f1
        have u0 : (WF).cell? ⟨w.heap.size + 1, 0, none⟩ = some (.int .u64 0) := by rw [cell_of_block eF]; rfl
        have u1 : (WF).cell? ⟨w.heap.size + 1, 1, none⟩ = some (.int .u64 0) := by rw [cell_of_block eF]; rfl
        exact bodyPost_ret (v := .tuple #[.int .u64 (rr : Nat), .agg #[.int .u64 0, .int .u64 0], .bool false, .int .i64 0]) (by simp [results, Tryz.f144, go_sem, u0, u1]) rfl ⟨d + 1, Bt.rootOf rr m y1 y2, _, o1, rfl, stF, kF, HFN.out⟩
      · have T4 := three_alloc w10 (.cells #[.int .u64 (Bt.hd x : Nat), .int .u64 g] 43) (.cells #[.int .u64 (m.vh : Nat)] 43) (.cells #[.int .u64 (m.kh : Nat)] 43)
        refine plan3_do _ (by rfl) (by rfl) (fun K hK => ?_)
        go_simp
        try go_simp
        refine hK.out _ _ (HJ.out _ T4.2.1) ?_
        clear hK K
        try simp only [Act.put, List.setIfInBounds_toArray, List.set_cons_zero, List.set_cons_succ]
        refine plan3_do _ (by rfl) (by rfl) (fun K hK => ?_)
        go_simp
        try go_simp
        refine hK.out _ _ (HJ.out _ T4.2.2.1) ?_
        clear hK K
        try simp only [Act.put, List.setIfInBounds_toArray, List.set_cons_zero, List.set_cons_succ]
        refine' plan3_take _ (by rfl) _ (by rfl) ?_ ?_
        rotate_left
        · rintro _ ⟨x, rfl⟩
          go_simp
          try with_reducible rfl
        try simp only [Act.put, List.setIfInBounds_toArray, List.set_cons_zero, List.set_cons_succ]
        refine plan3_do _ (by rfl) (by rfl) (fun K hK => ?_)
        go_simp
        refine (HA.out _ (w10.heap.size + 2) (w10.heap.size + 1) w10.heap.size (HB7.out.trans (T4.2.2.1.mono (by omega))) (by omega) (by omega) (by omega) T4.2.2.2.2.2 T4.2.2.2.2.1 T4.2.2.2.1).mono ?_
        rintro en w11 ⟨rfl, v11, st11, kp11, sp11, own11⟩
        have hsW := T4.2.2.1.size
        have hI11 : I w11 := hJ2 _ _ T4.2.2.1 kp11
        have hold := (HJI.out _ hI11).2
        have kF : Keep Y w w11 := (HK.out.1.trans (Keep.of_below (HB7.out.trans (T4.2.2.1.mono (by omega))) fun k hk => by have := HK.out.2.2.2.2.2.2 k hk; have := HK.out.1.size; omega)).trans (kp11.mono fun k hk => ⟨Or.inl (Or.inl (Or.inl hk)), by have := HK.out.2.2.2.2.2.2 k hk; omega⟩)
        have x0 : (w11).cell? ⟨w.heap.size + 1, 0, none⟩ = some (.int .u64 0) := by rw [cell_of_block hold]; rfl
        have x1 : (w11).cell? ⟨w.heap.size + 1, 1, none⟩ = some (.int .u64 0) := by rw [cell_of_block hold]; rfl
        have f0 : (w11).frozen? ⟨w.heap.size + 1, 0, none⟩ = false := frozen_of_block hold
        have f1 : (w11).frozen? ⟨w.heap.size + 1, 1, none⟩ = false := frozen_of_block hold
        have H11 := Lib.hid (And.intro hold (And.intro st11 kF))
        clear kp11 sp11 own11 hold st11 kF T4
        try go_simp
        refine hK.out _ _ (hI11) ?_
        clear hK K
        try simp only [Act.put, List.setIfInBounds_toArray, List.set_cons_zero, List.set_cons_succ]
        refine plan3_do _ (by rfl) (by rfl) (fun K hK => ?_)
        go_simp
        try go_simp
        refine hK.out _ _ (hI11) ?_
        clear hK K
        try simp only [Act.put, List.setIfInBounds_toArray, List.set_cons_zero, List.set_cons_succ]
        refine plan3_do _ (by rfl) (by rfl) (fun K hK => ?_)
        go_simp
        try go_simp
        refine hK.out _ _ (hJ3 _ hI11) ?_
        clear hK K
        try simp only [Act.put, List.setIfInBounds_toArray, List.set_cons_zero, List.set_cons_succ]
        refine plan3_do _ (by rfl) (by rfl) (fun K hK => ?_)
        go_simp
        try go_simp
        refine hK.out _ _ (hJ3 _ hI11) ?_
        clear hK K
        try simp only [Act.put, List.setIfInBounds_toArray, List.set_cons_zero, List.set_cons_succ]
        refine plan3_do _ (by rfl) (by rfl) (fun K hK => ?_)
        go_simp
        try go_simp
        refine hK.out _ _ (hJ3 _ hI11) ?_
        clear hK K
        try simp only [Act.put, List.setIfInBounds_toArray, List.set_cons_zero, List.set_cons_succ]
        refine plan3_nil ?_
        go_wp2_with fail
        obtain ⟨WF, hWF⟩ : ∃ WF, ((w11.setCell ⟨w.heap.size + 1, 0, none⟩ (.int .u64 0)).setCell ⟨w.heap.size + 1, 1, none⟩ (.int .u64 0)) = WF := ⟨_, rfl⟩
        rw [hWF]
        have eF : WF.heap[w.heap.size + 1]? = some (.cells #[.int .u64 0, .int .u64 0] 105 (0, 0)) := by
          rw [← hWF]
          exact heap_setCell (i := 1) (v := .int .u64 0) (heap_setCell (i := 0) (v := .int .u64 0) H11.out.1)
        have stF : StOn WF ps (putWords S2 rr 0 (bnWords t (Bt.bn (Bt.rootOf rr m y1 y2)))) Y := by
          rw [← hWF]
          exact (H11.out.2.1.write (b := w.heap.size + 1) (Or.inl (Or.inl (Or.inr ⟨by omega, by omega⟩))) H11.out.1 ⟨by decide, by decide⟩ (by simp) (by simp) fun k _ hk => (heap_setCell_ne hk).trans (heap_setCell_ne hk)).mono fun k hk => Or.inl (Or.inl (Or.inl hk))
        have kF : Keep Y w WF := by
          rw [← hWF]
          have hne : ∀ k, Y k → k ≠ w.heap.size + 1 := fun k hk => by have := HK.out.2.2.2.2.2.2 k hk; omega
          exact (H11.out.2.2.trans (Keep.mark hne)).trans (Keep.mark hne)
        clear hWF x0 x1 f0 f1
        have u0 : (WF).cell? ⟨w.heap.size + 1, 0, none⟩ = some (.int .u64 0) := by rw [cell_of_block eF]; rfl
        have u1 : (WF).cell? ⟨w.heap.size + 1, 1, none⟩ = some (.int .u64 0) := by rw [cell_of_block eF]; rfl
        exact bodyPost_ret (v := .tuple #[.int .u64 (rr : Nat), .agg #[.int .u64 0, .int .u64 0], .bool false, .int .i64 0]) (by simp [results, Tryz.f144, go_sem, u0, u1]) rfl ⟨d + 1, Bt.rootOf rr m y1 y2, _, o1, rfl, stF, kF, HFN.out⟩
end Go.Proofs.YtepdkbmnkjfcpaaGreatDoor
