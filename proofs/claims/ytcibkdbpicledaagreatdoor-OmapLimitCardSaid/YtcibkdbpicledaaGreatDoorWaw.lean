import Derived.Test.YtcibkdbpicledaaGreatDoorWav
import Derived.Sort.CutIn
set_option maxRecDepth 100000
set_option maxHeartbeats 6400000
namespace Go.Proofs.YtcibkdbpicledaaGreatDoor
open Go.RowKit Go.BigFrame Go.Maps Go.WideMaps Lf
open Go.Shelf
attribute [local go_sem] Oper.semAt_some
theorem bnode_get {w : World} {ps : Nat} {S : St} {Y : Nat → Prop} (h : StOn w ps S Y) (hi : Inv S) {t : Nat} {n : BN} (hn : BnOk t n) (hh : Nat) (hl : hh < 18446744073709551616) (hlen : S.len hh = (6 * t, 0)) (hg : ∀ k, k < 6 * t → S.get hh k = (wAt t n n.keys.length n.kids.length k, 0)) (hlt : ∀ x ∈ bnWords t n, x < 18446744073709551616) :
 Calls Tryz.prog 195 #[PV ps, .int .i64 t, .int .u64 hh] w fun e w' => ∃ vk vv vc, e = .returned (.tuple #[bnV vk vv vc n.size, .int .i64 0]) ∧ Rows3 w' w.heap.size vk vv vc n.keys n.vals n.kids ∧ Below w.heap.size w w' := by
 refine (callsIn_wide (n := 7)).1 ?_
 have h1 : 1 ≤ 7 := by omega
 have hfL : Fence.wide.fn 85 := trivial
 have hfI : Fence.wide.fn 176 := trivial
 have hfF : Fence.wide.fn 215 := trivial
 have hfW : Fence.wide.fn 216 := trivial
 have hfG : Fence.wide.fn 214 := trivial
 have hen : ∀ (args : Array Value) (w : World), (callFunc 214 args).run Tryz.prog w = .ok (.enter 214 args) w := fun args w => by go_simp
 have hle0 : ∀ W, Below w.heap.size w W → CallsIn Fence.wide 6 Tryz.prog 85 #[PV ps, .int .u64 0] W _ := fun W hW => callsIn_wide.2 (st_len (h.below hW) hi 0 (by omega))
 have hle1 : ∀ W, Below w.heap.size w W → CallsIn Fence.wide 6 Tryz.prog 85 #[PV ps, .int .u64 hh] W _ := fun W hW => callsIn_wide.2 (st_len (h.below hW) hi hh hl)
 rw [len_zero] at hle0
 rw [hlen] at hle1
 have his : ∀ W, CallsIn Fence.wide 6 Tryz.prog 176 #[.int .i64 t] W _ := fun W => callsIn_wide.2 (isDeg_true hn.lo hn.hi ▸ bnode_is (t : Int) W)
 have hge : ∀ W, Below w.heap.size w W → W.heap[w.heap.size]? = some (.cells #[PV ps] 25 (0, 0)) → W.heap[w.heap.size + 1]? = some (.cells #[.int .u64 hh] 83 (0, 0)) → ∀ (k : Nat) (_ : k ≤ 1000), Calls Tryz.prog 214 #[.int .i64 k, PV w.heap.size, PV (w.heap.size + 1)] W fun e w' => e = .returned (.int .u64 (wAt t n n.keys.length n.kids.length k : Nat)) ∧ W = w' := fun W hW e3 e5 k hk =>
  bn_get1 (h.below hW) hi hh hl (by rw [cell_of_block e3]; rfl) (by rw [cell_of_block e5]; rfl) k (by omega) (get_all hn hlen hg k)
 have ht := And.intro hn.lo hn.hi
 have hm6 : IntKind.i64.wrap (6 * (t : Int)) = 6 * (t : Int) := IntWalk.i64_in _ (by omega)
 have hcast : ((6 * t : Nat) : Int) = 6 * (t : Int) := by omega
 simp only at hle0 hle1
 rw [hcast] at hle1
 obtain ⟨kn, hkn⟩ : ∃ kn, n.keys.length = kn := ⟨_, rfl⟩
 obtain ⟨cn, hcn⟩ : ∃ cn, n.kids.length = cn := ⟨_, rfl⟩
 obtain ⟨sz, hsz⟩ : ∃ sz, n.size = sz := ⟨_, rfl⟩
 have hk2 : kn ≤ 2 * t - 1 := by rw [← hkn]; exact hn.many
 have hc2 : cn = 0 ∨ cn = kn + 1 := by rw [← hkn, ← hcn]; exact hn.kids.imp id And.left
 have hks : kn < 18446744073709551616 := by omega
 rw [hkn, hcn] at hge
 have g0 : wAt t n kn cn 0 = kn := by unfold wAt; rw [if_pos rfl, hkn]
 have g1 : wAt t n kn cn 1 = sz := by unfold wAt; rw [if_neg (by omega), if_pos rfl, hsz]
 have six := four_box w ps hh
 have hge0 := fun W (hW : Below w.heap.size w W) e3 e5 => callsIn_wide (n := 6) |>.2 (hge W hW e3 e5 0 (by omega))
 have hge1 := fun W (hW : Below w.heap.size w W) e3 e5 => callsIn_wide (n := 6) |>.2 (hge W hW e3 e5 1 (by omega))
 rw [g0] at hge0
 rw [g1] at hge1
 have HG := Lib.hid (And.intro hle0 (And.intro hle1 (And.intro his (And.intro hge0 (And.intro hge1 (And.intro hge (And.intro h (And.intro hi (And.intro hn (And.intro hkn (And.intro hcn (And.intro hsz hlt))))))))))))
 clear hle0 hle1 his hge0 hge1 hge h hi hn hkn hcn hsz hlt hg hlen g0 g1
 refine callsIn_of_wp_marks Tryz.func195 rfl trivial ?_ rfl
 simp only [Tryz.ntmps195, List.size_toArray, List.length_cons, List.length_nil, Nat.reduceAdd, Nat.reduceSub, Array.replicate_succ, Array.replicate_zero, List.push_toArray, List.append_toArray, List.nil_append, List.cons_append]
 gi_wp2_with fail
 generalize ((((w.alloc (.cells #[PV ps] 25)).alloc (.cells #[.int .u64 hh] 83)).alloc (.cells #[.slice none 0 0, .slice none 0 0, .slice none 0 0, .int .u64 0] 286)).alloc (.cells #[.int .i64 0] 30)) = w4 at *
 have e3 := six.b3
 have e5 := six.b5
 have x0 : (w4).cell? ⟨w.heap.size, 0, none⟩ = some (PV ps) := by rw [cell_of_block e3]; rfl
 have y0 : (w4).cell? ⟨w.heap.size + 1, 0, none⟩ = some (.int .u64 hh) := by rw [cell_of_block e5]; rfl
 have S4 := Lib.hid six
 clear e3 e5 six
 refine (HG.out.1 _ S4.out.below).mono ?_
 rintro e w5 ⟨rfl, rfl⟩
 gi_wp2_with fail
 refine (HG.out.2.2.1 _).mono ?_
 rintro e w5 ⟨rfl, rfl⟩
 gi_wp2_with fail
 refine (HG.out.2.1 _ S4.out.below).mono ?_
 rintro e w5 ⟨rfl, rfl⟩
 gi_wp2_with fail
 have e5w := (Below.refl w4.heap.size w4).alloc (Nat.le_refl _) (.cells #[.func (.func 214) #[] #[PV w.heap.size, PV (w.heap.size + 1)]] 219)
 have z4 := S4.out.size
 have f3 := (e5w.block w.heap.size (by omega)).trans S4.out.b3
 have f5 := (e5w.block (w.heap.size + 1) (by omega)).trans S4.out.b5
 have S5 := kq3 (S4.out.below.trans (e5w.mono (by omega))) f3 f5
 have f12 := heap_alloc_new w4 (.cells #[.func (.func 214) #[] #[PV w.heap.size, PV (w.heap.size + 1)]] 219)
 have k12 : (w4.alloc (.cells #[.func (.func 214) #[] #[PV w.heap.size, PV (w.heap.size + 1)]] 219)).cell? ⟨w4.heap.size, 0, none⟩ = some (.func (.func 214) #[] #[PV w.heap.size, PV (w.heap.size + 1)]) := by rw [cell_of_block f12]; rfl
 clear e5w f3 f5 f12 x0 y0 z4
 refine (HG.out.2.2.2.1 _ S5.out.1 S5.out.2.1 S5.out.2.2).mono ?_
 rintro e w5 ⟨rfl, rfl⟩
 have q1 : ((2 * (t : Int) - 1) < (kn : Int)) = False := eq_false (by omega)
 have q2 : IntKind.u64.wrap (2 * (t : Int) - 1) = 2 * (t : Int) - 1 := by show (2 * (t : Int) - 1) % 18446744073709551616 = _; omega
 gi_wp2_with fail
 refine (HG.out.2.2.2.2.1 _ S5.out.1 S5.out.2.1 S5.out.2.2).mono ?_
 rintro e w5 ⟨rfl, rfl⟩
 gi_wp2_with fail
 clear k12 q1 q2
 have six := S4.out.six sz
 generalize (w4.alloc (.cells #[.func (.func 214) #[] #[PV w.heap.size, PV (w.heap.size + 1)]] 219)).alloc (.cells #[.slice none 0 0, .slice none 0 0, .slice none 0 0, .int .u64 sz] 286) = w6 at *
 generalize w4.heap.size = b12 at *
 have S6 := Lib.hid six
 have k12 := cell_of_block (o := 0) six.k12
 have k12 : w6.cell? ⟨b12, 0, none⟩ = some (.func (.func 214) #[] #[PV w.heap.size, PV (w.heap.size + 1)]) := k12
 clear six
 refine (HG.out.2.2.2.1 _ S6.out.below S6.out.b3 S6.out.b5).mono ?_
 rintro e w5 ⟨rfl, rfl⟩
 have q3 : IntKind.i64.wrap (kn : Int) = (kn : Int) := IntWalk.i64_in _ (by omega)
 gi_wp2_with fail
 clear k12 q3
 gi_loopw [14, 63] (fun _ i wr => ∃ j : Nat, j ≤ kn ∧ i = .int .i64 j ∧ ∃ vk vv, GBox w wr ps hh b12 vk vv (.slice none 0 0) sz ∧ Rows3 wr (b12 + 2) vk vv (.slice none 0 0) (n.keys.take j) (n.vals.take j) []) (fun _ i _ => kn - (intOf i).toNat)
 case atStart =>
  refine ⟨0, by omega, rfl, .slice none 0 0, .slice none 0 0, S6.out, ?_⟩
  exact { k := World.ownsRow_nil _ _ _ _, v := World.ownsRow_nil _ _ _ _, c := World.ownsRow_nil _ _ _ _, kv := fun g e => (nomatch e), kc := fun g e => (nomatch e), vc := fun g e => (nomatch e) }
 case round =>
  obtain ⟨j, hj, rfl, vk, vv, gb, rows⟩ := hrel
  by_cases hlt : j < kn
  · have hlt' : (j : Int) < kn := by omega
    have jk : j < n.keys.length := by rw [HG.out.2.2.2.2.2.2.2.2.2.1]; exact hlt
    have jv : j < n.vals.length := by rw [HG.out.2.2.2.2.2.2.2.2.1.vals]; exact jk
    have gk : wAt t n kn cn (2 + 2 * j) = n.keys[j] := by
     unfold wAt
     rw [if_neg (by omega), if_neg (by omega), if_pos (by omega), if_pos (by omega), show (2 + 2 * j - 2) / 2 = j by omega, List.getD_eq_getElem?_getD, List.getElem?_eq_getElem jk]; rfl
    have gv : wAt t n kn cn (2 + 2 * j + 1) = n.vals[j] := by
     unfold wAt
     rw [if_neg (by omega), if_neg (by omega), if_pos (by omega), if_neg (by omega), show (2 + 2 * j + 1 - 2) / 2 = j by omega, List.getD_eq_getElem?_getD, List.getElem?_eq_getElem jv]; rfl
    have tk : n.keys.take (j + 1) = n.keys.take j ++ [n.keys[j]] := by rw [List.take_succ_eq_append_getElem jk]
    have tv : n.vals.take (j + 1) = n.vals.take j ++ [n.vals[j]] := by rw [List.take_succ_eq_append_getElem jv]
    have lkl : (n.keys.take j).length = j := by rw [List.length_take]; omega
    have lvl : (n.vals.take j).length = j := by rw [List.length_take]; omega
    have hgk := fun W (hW : Below w.heap.size w W) e3 e5 => HG.out.2.2.2.2.2.1 W hW e3 e5 (2 + 2 * j) (by omega)
    have hgv := fun W (hW : Below w.heap.size w W) e3 e5 => HG.out.2.2.2.2.2.1 W hW e3 e5 (2 + 2 * j + 1) (by omega)
    rw [gk] at hgk
    rw [gv] at hgv
    have hc1 : ((2 + 2 * j : Nat) : Int) = 2 + 2 * (j : Int) := by omega
    have hc3 : ((2 + 2 * j + 1 : Nat) : Int) = 2 + 2 * (j : Int) + 1 := by omega
    rw [hc1] at hgk
    rw [hc3] at hgv
    generalize n.keys[j] = xk at *
    generalize n.vals[j] = xv at *
    have HC := kq9 hgk hgv tk tv lkl lvl gb rows hlt
    clear hgk hgv tk tv lkl lvl gk gv gb rows jk jv hc1 hc3 hlt
    have m1 : IntKind.i64.wrap (2 * (j : Int)) = 2 * (j : Int) := IntWalk.i64_in _ (by omega)
    have m2 : IntKind.i64.wrap (2 + 2 * (j : Int)) = 2 + 2 * (j : Int) := IntWalk.i64_in _ (by omega)
    have m3 : IntKind.i64.wrap (2 + 2 * (j : Int) + 1) = 2 + 2 * (j : Int) + 1 := IntWalk.i64_in _ (by omega)
    gi_wp2_with fail
    have HD := kq2 (HC.out.2.2.2.2.2.2.1).drew (HC.out.2.2.2.2.2.2.2.1).drew
    obtain ⟨I, hIi, hIo⟩ : ∃ I : World → Prop, (∀ w', I w' → w'.heap[b12]? = some (.cells #[.func (.func 214) #[] #[PV w.heap.size, PV (w.heap.size + 1)]] 219 (0, 0))) ∧ (∀ w', w'.heap[b12]? = some (.cells #[.func (.func 214) #[] #[PV w.heap.size, PV (w.heap.size + 1)]] 219 (0, 0)) → I w') := ⟨fun w' => w'.heap[b12]? = some (.cells #[.func (.func 214) #[] #[PV w.heap.size, PV (w.heap.size + 1)]] 219 (0, 0)), fun _ h => h, fun _ h => h⟩
    have hz0 := fun x : Keeps I => hIi _ x.ok
    have o0 : ∀ x : Keeps I, x.to.cell? ⟨b12, 0, none⟩ = some (.func (.func 214) #[] #[PV w.heap.size, PV (w.heap.size + 1)]) := fun x => by rw [cell_of_block (hz0 x)]; rfl
    have hI0 : I wr.drew := hIo _ HD.out.1.k12
    have HI := Lib.hid hIo
    clear hIi hIo hz0
    refine wpInW_region_plan I (.take 0 (.take 2 (.take 3 (.take 4 (.take 5 (.two 1 6 (.go 6 (.go 7 (.go 8 (.take 9 (.go 10 .nil))))) (.two 1 7 (.go 7 (.go 8 (.take 9 (.go 10 .nil)))) (.go 1 (.go 8 (.take 9 (.go 10 .nil))))))))))) (by kernel_rfl) (by kernel_rfl) (by kernel_rfl) hI0 ?_
    clear hI0
    generalize wr.drew = W at *
    iterate 5
     refine' plan_take _ (by rfl) _ (by rfl) ?_ ?_
     rotate_left
     · rintro _ ⟨x, rfl⟩
       have hxo0 := o0 x
       go_simp
       try with_reducible rfl
     try simp only [pu]
    refine plan_two ?_ ?_
    focus
     have k13 := HD.out.1.k13
     obtain ⟨y0, y1, y2, y3⟩ := cells4 k13
     refine pD fun K hK => ?_
     go_simp
     try go_simp
     refine hK.out _ _ (HI.out _ (HD.out.1.k12)) ?_
     clear hK K
     try simp only [pu]
     clear y0 y1 y2 y3 k13
     refine pD fun K hK => ?_
     go_simp
     refine (HC.out.1 _ HD.out.1.below HD.out.1.b3 HD.out.1.b5).mono ?_
     rintro e w3 ⟨rfl, rfl⟩
     try go_simp
     refine hK.out _ _ (HI.out _ (HD.out.1.k12)) ?_
     clear hK K
     try simp only [pu]
     refine pD fun K hK => ?_
     go_simp
     have g2 : GBox w (W.alloc (.cells #[.int .u64 xk] 83)) ps hh b12 (vk) (vv) (.slice none 0 0) sz := HD.out.1.grown (row := none) (World.grownBy_alloc _ _ _) (fun g e => nomatch e)
     try go_simp
     refine hK.out _ _ (HI.out _ (g2.k12)) ?_
     clear hK K
     try simp only [pu]
     obtain ⟨v', W2, hr, ho, hg, hv⟩ := append_handle HD.out.2.k (by rw [HC.out.2.2.2.2.1]; omega) xk HD.out.1.size 229
     have g3 := HD.out.1.grown hg fun g e => (HD.out.2.k.ge g e).1
     have gs := step_row0 HD.out.1 HD.out.2 ho hg hv
     obtain ⟨sA, sM, sC, rfl⟩ := ho.slice
     clear ho hg hv
     have HS := Lib.hid gs
     clear gs
     refine plan_do _ (by rfl) (by rfl) (fun K hK => wp_append _ _ _ rfl rfl rfl hr ?_)
     clear hr
     try go_simp
     refine hK.out _ _ (HI.out _ (g3.k12)) ?_
     clear hK K
     try simp only [pu]
     refine' plan_take _ (by rfl) _ (by rfl) ?_ ?_
     rotate_left
     · rintro _ ⟨x, rfl⟩
       go_simp
       try with_reducible rfl
     try simp only [pu]
     have k13 := g3.k13
     obtain ⟨y0, y1, y2, y3⟩ := cells4 k13
     obtain ⟨f0, f1, f2, f3⟩ := frees4 k13
     clear k13 g3
     refine pD fun K hK => ?_
     go_simp
     clear y0 f0 y1 f1 y2 f2 y3 f3
     generalize hW : W2.setCell ⟨b12 + 1, 0, none⟩ (.slice sA sM sC) = wr2 at *
     try go_simp
     refine hK.out _ _ (HI.out _ (HS.out.1.k12)) ?_
     clear hK K
     try simp only [pu]
     refine plan_end ?_
     have HJ := HS
     generalize Value.slice sA sM sC = vk2 at *
     clear hW HS g2 HD HI o0 I W2
     generalize W.heap.size = wr2q
     clear W
    rotate_left
    focus
     refine pD fun K hK => ?_
     go_simp
     refine (HC.out.1 _ HD.out.1.below HD.out.1.b3 HD.out.1.b5).mono ?_
     rintro e w3 ⟨rfl, rfl⟩
     try go_simp
     refine hK.out _ _ (HI.out _ (HD.out.1.k12)) ?_
     clear hK K
     try simp only [pu]
     refine plan_two ?_ ?_
     focus
      have k13 := HD.out.1.k13
      obtain ⟨y0, y1, y2, y3⟩ := cells4 k13
      refine pD fun K hK => ?_
      go_simp
      try go_simp
      refine hK.out _ _ (HI.out _ (HD.out.1.k12)) ?_
      clear hK K
      try simp only [pu]
      clear y0 y1 y2 y3 k13
      refine pD fun K hK => ?_
      go_simp
      have g2 : GBox w (W.alloc (.cells #[.int .u64 xk] 83)) ps hh b12 (vk) (vv) (.slice none 0 0) sz := HD.out.1.grown (row := none) (World.grownBy_alloc _ _ _) (fun g e => nomatch e)
      try go_simp
      refine hK.out _ _ (HI.out _ (g2.k12)) ?_
      clear hK K
      try simp only [pu]
      obtain ⟨v', W2, hr, ho, hg, hv⟩ := append_handle HD.out.2.k (by rw [HC.out.2.2.2.2.1]; omega) xk HD.out.1.size 229
      have g3 := HD.out.1.grown hg fun g e => (HD.out.2.k.ge g e).1
      have gs := step_row0 HD.out.1 HD.out.2 ho hg hv
      obtain ⟨sA, sM, sC, rfl⟩ := ho.slice
      clear ho hg hv
      have HS := Lib.hid gs
      clear gs
      refine plan_do _ (by rfl) (by rfl) (fun K hK => wp_append _ _ _ rfl rfl rfl hr ?_)
      clear hr
      try go_simp
      refine hK.out _ _ (HI.out _ (g3.k12)) ?_
      clear hK K
      try simp only [pu]
      refine' plan_take _ (by rfl) _ (by rfl) ?_ ?_
      rotate_left
      · rintro _ ⟨x, rfl⟩
        go_simp
        try with_reducible rfl
      try simp only [pu]
      have k13 := g3.k13
      obtain ⟨y0, y1, y2, y3⟩ := cells4 k13
      obtain ⟨f0, f1, f2, f3⟩ := frees4 k13
      clear k13 g3
      refine pD fun K hK => ?_
      go_simp
      clear y0 f0 y1 f1 y2 f2 y3 f3
      generalize hW : W2.setCell ⟨b12 + 1, 0, none⟩ (.slice sA sM sC) = wr2 at *
      try go_simp
      refine hK.out _ _ (HI.out _ (HS.out.1.k12)) ?_
      clear hK K
      try simp only [pu]
      refine plan_end ?_
      have HJ := HS
      generalize Value.slice sA sM sC = vk2 at *
      clear hW HS g2 HD HI o0 I W2
      generalize W.heap.size = wr2q
      clear W
     rotate_left
     focus
      refine pD fun K hK => ?_
      go_simp
      have g2 : GBox w (W.alloc (.cells #[.int .u64 xk] 83)) ps hh b12 (vk) (vv) (.slice none 0 0) sz := HD.out.1.grown (row := none) (World.grownBy_alloc _ _ _) (fun g e => nomatch e)
      try go_simp
      refine hK.out _ _ (HI.out _ (g2.k12)) ?_
      clear hK K
      try simp only [pu]
      have k13 := g2.k13
      obtain ⟨y0, y1, y2, y3⟩ := cells4 k13
      refine pD fun K hK => ?_
      go_simp
      try go_simp
      refine hK.out _ _ (HI.out _ (g2.k12)) ?_
      clear hK K
      try simp only [pu]
      clear y0 y1 y2 y3 k13
      obtain ⟨v', W2, hr, ho, hg, hv⟩ := append_handle HD.out.2.k (by rw [HC.out.2.2.2.2.1]; omega) xk HD.out.1.size 229
      have g3 := HD.out.1.grown hg fun g e => (HD.out.2.k.ge g e).1
      have gs := step_row0 HD.out.1 HD.out.2 ho hg hv
      obtain ⟨sA, sM, sC, rfl⟩ := ho.slice
      clear ho hg hv
      have HS := Lib.hid gs
      clear gs
      refine plan_do _ (by rfl) (by rfl) (fun K hK => wp_append _ _ _ rfl rfl rfl hr ?_)
      clear hr
      try go_simp
      refine hK.out _ _ (HI.out _ (g3.k12)) ?_
      clear hK K
      try simp only [pu]
      refine' plan_take _ (by rfl) _ (by rfl) ?_ ?_
      rotate_left
      · rintro _ ⟨x, rfl⟩
        go_simp
        try with_reducible rfl
      try simp only [pu]
      have k13 := g3.k13
      obtain ⟨y0, y1, y2, y3⟩ := cells4 k13
      obtain ⟨f0, f1, f2, f3⟩ := frees4 k13
      clear k13 g3
      refine pD fun K hK => ?_
      go_simp
      clear y0 f0 y1 f1 y2 f2 y3 f3
      generalize hW : W2.setCell ⟨b12 + 1, 0, none⟩ (.slice sA sM sC) = wr2 at *
      try go_simp
      refine hK.out _ _ (HI.out _ (HS.out.1.k12)) ?_
      clear hK K
      try simp only [pu]
      refine plan_end ?_
      have HJ := HS
      generalize Value.slice sA sM sC = vk2 at *
      clear hW HS g2 HD HI o0 I W2
      generalize W.heap.size = wr2q
      clear W
    all_goals
     gi_wp2_with fail
     have HD := kq2 (HJ.out.1).drew (HJ.out.2).drew
     obtain ⟨I, hIi, hIo⟩ : ∃ I : World → Prop, (∀ w', I w' → w'.heap[b12]? = some (.cells #[.func (.func 214) #[] #[PV w.heap.size, PV (w.heap.size + 1)]] 219 (0, 0))) ∧ (∀ w', w'.heap[b12]? = some (.cells #[.func (.func 214) #[] #[PV w.heap.size, PV (w.heap.size + 1)]] 219 (0, 0)) → I w') := ⟨fun w' => w'.heap[b12]? = some (.cells #[.func (.func 214) #[] #[PV w.heap.size, PV (w.heap.size + 1)]] 219 (0, 0)), fun _ h => h, fun _ h => h⟩
     have hz0 := fun x : Keeps I => hIi _ x.ok
     have o0 : ∀ x : Keeps I, x.to.cell? ⟨b12, 0, none⟩ = some (.func (.func 214) #[] #[PV w.heap.size, PV (w.heap.size + 1)]) := fun x => by rw [cell_of_block (hz0 x)]; rfl
     have hI0 : I wr2.drew := hIo _ HD.out.1.k12
     have HI := Lib.hid hIo
     clear hIi hIo hz0
     refine wpInW_region_plan I (.take 0 (.take 2 (.take 3 (.take 4 (.take 5 (.take 6 (.two 1 7 (.go 7 (.go 8 (.go 9 (.take 10 (.go 11 .nil))))) (.two 1 8 (.go 8 (.go 9 (.take 10 (.go 11 .nil)))) (.go 1 (.go 9 (.take 10 (.go 11 .nil)))))))))))) (by kernel_rfl) (by kernel_rfl) (by kernel_rfl) hI0 ?_
     clear hI0
     generalize wr2.drew = W at *
     iterate 6
      refine' plan_take _ (by rfl) _ (by rfl) ?_ ?_
      rotate_left
      · rintro _ ⟨x, rfl⟩
        have hxo0 := o0 x
        go_simp
        try with_reducible rfl
      try simp only [pu]
     refine plan_two ?_ ?_
     focus
      have k13 := HD.out.1.k13
      obtain ⟨y0, y1, y2, y3⟩ := cells4 k13
      refine pD fun K hK => ?_
      go_simp
      try go_simp
      refine hK.out _ _ (HI.out _ (HD.out.1.k12)) ?_
      clear hK K
      try simp only [pu]
      clear y0 y1 y2 y3 k13
      refine pD fun K hK => ?_
      go_simp
      refine (HC.out.2.1 _ HD.out.1.below HD.out.1.b3 HD.out.1.b5).mono ?_
      rintro e w3 ⟨rfl, rfl⟩
      try go_simp
      refine hK.out _ _ (HI.out _ (HD.out.1.k12)) ?_
      clear hK K
      try simp only [pu]
      refine pD fun K hK => ?_
      go_simp
      have g2 : GBox w (W.alloc (.cells #[.int .u64 xv] 83)) ps hh b12 (vk2) (vv) (.slice none 0 0) sz := HD.out.1.grown (row := none) (World.grownBy_alloc _ _ _) (fun g e => nomatch e)
      try go_simp
      refine hK.out _ _ (HI.out _ (g2.k12)) ?_
      clear hK K
      try simp only [pu]
      obtain ⟨v', W2, hr, ho, hg, hv⟩ := append_handle HD.out.2.v (by rw [HC.out.2.2.2.2.2.1]; omega) xv HD.out.1.size 229
      have g3 := HD.out.1.grown hg fun g e => (HD.out.2.v.ge g e).1
      have gs := step_row1 HD.out.1 HD.out.2 ho hg hv
      obtain ⟨sA, sM, sC, rfl⟩ := ho.slice
      clear ho hg hv
      have HS := Lib.hid gs
      clear gs
      refine plan_do _ (by rfl) (by rfl) (fun K hK => wp_append _ _ _ rfl rfl rfl hr ?_)
      clear hr
      try go_simp
      refine hK.out _ _ (HI.out _ (g3.k12)) ?_
      clear hK K
      try simp only [pu]
      refine' plan_take _ (by rfl) _ (by rfl) ?_ ?_
      rotate_left
      · rintro _ ⟨x, rfl⟩
        go_simp
        try with_reducible rfl
      try simp only [pu]
      have k13 := g3.k13
      obtain ⟨y0, y1, y2, y3⟩ := cells4 k13
      obtain ⟨f0, f1, f2, f3⟩ := frees4 k13
      clear k13 g3
      refine pD fun K hK => ?_
      go_simp
      clear y0 f0 y1 f1 y2 f2 y3 f3
      generalize hW : W2.setCell ⟨b12 + 1, 1, none⟩ (.slice sA sM sC) = wr3 at *
      try go_simp
      refine hK.out _ _ (HI.out _ (HS.out.1.k12)) ?_
      clear hK K
      try simp only [pu]
      refine plan_end ?_
      have HJ := HS
      generalize Value.slice sA sM sC = vv2 at *
      clear hW HS g2 HD HI o0 I W2
      generalize W.heap.size = wr3q
      clear W
     rotate_left
     focus
      refine pD fun K hK => ?_
      go_simp
      refine (HC.out.2.1 _ HD.out.1.below HD.out.1.b3 HD.out.1.b5).mono ?_
      rintro e w3 ⟨rfl, rfl⟩
      try go_simp
      refine hK.out _ _ (HI.out _ (HD.out.1.k12)) ?_
      clear hK K
      try simp only [pu]
      refine plan_two ?_ ?_
      focus
       have k13 := HD.out.1.k13
       obtain ⟨y0, y1, y2, y3⟩ := cells4 k13
       refine pD fun K hK => ?_
       go_simp
       try go_simp
       refine hK.out _ _ (HI.out _ (HD.out.1.k12)) ?_
       clear hK K
       try simp only [pu]
       clear y0 y1 y2 y3 k13
       refine pD fun K hK => ?_
       go_simp
       have g2 : GBox w (W.alloc (.cells #[.int .u64 xv] 83)) ps hh b12 (vk2) (vv) (.slice none 0 0) sz := HD.out.1.grown (row := none) (World.grownBy_alloc _ _ _) (fun g e => nomatch e)
       try go_simp
       refine hK.out _ _ (HI.out _ (g2.k12)) ?_
       clear hK K
       try simp only [pu]
       obtain ⟨v', W2, hr, ho, hg, hv⟩ := append_handle HD.out.2.v (by rw [HC.out.2.2.2.2.2.1]; omega) xv HD.out.1.size 229
       have g3 := HD.out.1.grown hg fun g e => (HD.out.2.v.ge g e).1
       have gs := step_row1 HD.out.1 HD.out.2 ho hg hv
       obtain ⟨sA, sM, sC, rfl⟩ := ho.slice
       clear ho hg hv
       have HS := Lib.hid gs
       clear gs
       refine plan_do _ (by rfl) (by rfl) (fun K hK => wp_append _ _ _ rfl rfl rfl hr ?_)
       clear hr
       try go_simp
       refine hK.out _ _ (HI.out _ (g3.k12)) ?_
       clear hK K
       try simp only [pu]
       refine' plan_take _ (by rfl) _ (by rfl) ?_ ?_
       rotate_left
       · rintro _ ⟨x, rfl⟩
         go_simp
         try with_reducible rfl
       try simp only [pu]
       have k13 := g3.k13
       obtain ⟨y0, y1, y2, y3⟩ := cells4 k13
       obtain ⟨f0, f1, f2, f3⟩ := frees4 k13
       clear k13 g3
       refine pD fun K hK => ?_
       go_simp
       clear y0 f0 y1 f1 y2 f2 y3 f3
       generalize hW : W2.setCell ⟨b12 + 1, 1, none⟩ (.slice sA sM sC) = wr3 at *
       try go_simp
       refine hK.out _ _ (HI.out _ (HS.out.1.k12)) ?_
       clear hK K
       try simp only [pu]
       refine plan_end ?_
       have HJ := HS
       generalize Value.slice sA sM sC = vv2 at *
       clear hW HS g2 HD HI o0 I W2
       generalize W.heap.size = wr3q
       clear W
      rotate_left
      focus
       refine pD fun K hK => ?_
       go_simp
       have g2 : GBox w (W.alloc (.cells #[.int .u64 xv] 83)) ps hh b12 (vk2) (vv) (.slice none 0 0) sz := HD.out.1.grown (row := none) (World.grownBy_alloc _ _ _) (fun g e => nomatch e)
       try go_simp
       refine hK.out _ _ (HI.out _ (g2.k12)) ?_
       clear hK K
       try simp only [pu]
       have k13 := g2.k13
       obtain ⟨y0, y1, y2, y3⟩ := cells4 k13
       refine pD fun K hK => ?_
       go_simp
       try go_simp
       refine hK.out _ _ (HI.out _ (g2.k12)) ?_
       clear hK K
       try simp only [pu]
       clear y0 y1 y2 y3 k13
       obtain ⟨v', W2, hr, ho, hg, hv⟩ := append_handle HD.out.2.v (by rw [HC.out.2.2.2.2.2.1]; omega) xv HD.out.1.size 229
       have g3 := HD.out.1.grown hg fun g e => (HD.out.2.v.ge g e).1
       have gs := step_row1 HD.out.1 HD.out.2 ho hg hv
       obtain ⟨sA, sM, sC, rfl⟩ := ho.slice
       clear ho hg hv
       have HS := Lib.hid gs
       clear gs
       refine plan_do _ (by rfl) (by rfl) (fun K hK => wp_append _ _ _ rfl rfl rfl hr ?_)
       clear hr
       try go_simp
       refine hK.out _ _ (HI.out _ (g3.k12)) ?_
       clear hK K
       try simp only [pu]
       refine' plan_take _ (by rfl) _ (by rfl) ?_ ?_
       rotate_left
       · rintro _ ⟨x, rfl⟩
         go_simp
         try with_reducible rfl
       try simp only [pu]
       have k13 := g3.k13
       obtain ⟨y0, y1, y2, y3⟩ := cells4 k13
       obtain ⟨f0, f1, f2, f3⟩ := frees4 k13
       clear k13 g3
       refine pD fun K hK => ?_
       go_simp
       clear y0 f0 y1 f1 y2 f2 y3 f3
       generalize hW : W2.setCell ⟨b12 + 1, 1, none⟩ (.slice sA sM sC) = wr3 at *
       try go_simp
       refine hK.out _ _ (HI.out _ (HS.out.1.k12)) ?_
       clear hK K
       try simp only [pu]
       refine plan_end ?_
       have HJ := HS
       generalize Value.slice sA sM sC = vv2 at *
       clear hW HS g2 HD HI o0 I W2
       generalize W.heap.size = wr3q
       clear W
     all_goals
      gi_wp2_with fail
      refine ⟨⟨j + 1, by omega, by simp, vk2, vv2, HJ.out.1, by rw [HC.out.2.2.1, HC.out.2.2.2.1]; exact HJ.out.2⟩, ?_⟩
      show kn - ((j : Int) + 1).toNat < kn - (j : Int).toNat
      omega
  · have hkk : kn = j := by omega
    subst hkk
    have hltf : ¬ ((kn : Int) < kn) := by omega
    have tk : n.keys.take kn = n.keys := List.take_of_length_le (by rw [HG.out.2.2.2.2.2.2.2.2.2.1]; exact Nat.le_refl _)
    have tv : n.vals.take kn = n.vals := List.take_of_length_le (by rw [HG.out.2.2.2.2.2.2.2.2.1.vals, HG.out.2.2.2.2.2.2.2.2.2.1]; exact Nat.le_refl _)
    rw [tk, tv] at rows
    obtain ⟨Ak, ck, hvk⟩ : ∃ A c, vk = .slice A kn c := by have := rows.k.slice2; rw [HG.out.2.2.2.2.2.2.2.2.2.1] at this; exact this
    subst hvk
    have R1 := kq2 gb rows
    clear gb rows tk tv
    gi_upto_region 21 with fail
    clear hltf
    have m4 : IntKind.i64.wrap (4 * (t : Int)) = 4 * (t : Int) := IntWalk.i64_in _ (by omega)
    iterate 6 gi_step
    rename_i hKs
    refine hKs _ _ ?_
    clear hKs
    gi_cut [15] from 88 (fun _ wc => ∃ vc, GBox w wc ps hh b12 (.slice Ak kn ck) vv vc sz ∧ Rows3 wc (b12 + 2) (.slice Ak kn ck) vv vc n.keys n.vals n.kids)
    case first =>
     gi_wp2_with fail
     gi_loopw [15] (fun i wr => ∃ j : Nat, j ≤ cn ∧ i = .int .i64 j ∧ ∃ vc, GBox w wr ps hh b12 (.slice Ak kn ck) vv vc sz ∧ Rows3 wr (b12 + 2) (.slice Ak kn ck) vv vc n.keys n.vals (n.kids.take j)) (fun i _ => kn + 1 - (intOf i).toNat)
     case atStart => exact ⟨0, by omega, rfl, .slice none 0 0, R1.out.1, by simpa using R1.out.2⟩
     case round =>
      clear R1
      obtain ⟨j, hj, rfl, vc, gb, rows⟩ := hrel
      have hg4 := callsIn_wide (n := 6) |>.2 (HG.out.2.2.2.2.2.1 _ gb.below gb.b3 gb.b5 (4 * t) (by omega))
      have hc4 : ((4 * t : Nat) : Int) = 4 * (t : Int) := by omega
      rw [hc4] at hg4
      have k13 := gb.k13
      obtain ⟨y0, y1, y2, y3⟩ := cells4 k13
      have k12 := cell_of_block (o := 0) gb.k12
      have k12 : wr.cell? ⟨b12, 0, none⟩ = some (.func (.func 214) #[] #[PV w.heap.size, PV (w.heap.size + 1)]) := k12
      have hlc := HG.out.2.2.2.2.2.2.2.2.2.2.1
      have q4 : wAt t n kn cn (4 * t) = n.kids.getD 0 0 := by
       unfold wAt
       rw [if_neg (by omega), if_neg (by omega), if_neg (by omega)]
       by_cases h0 : 0 < cn
       · rw [if_pos (by omega), Nat.sub_self]
       · rw [if_neg (by omega), List.getD_eq_getElem?_getD, List.getElem?_eq_none (by omega)]; rfl
      rw [q4] at hg4
      by_cases hlt2 : j < cn
      · have hcn2 : cn = kn + 1 := by omega
        have jc : j < n.kids.length := by rw [hlc]; exact hlt2
        have hkn2 : ((j : Int) ≤ kn) := by omega
        have h0 : n.kids.getD 0 0 ≠ 0 := fun e => by
         rcases HG.out.2.2.2.2.2.2.2.2.1.kids with h | ⟨-, h⟩
         · omega
         · rw [List.getD_eq_getElem?_getD, List.getElem?_eq_getElem (by omega)] at e
           have : n.kids.contains 0 = true := List.contains_iff_mem.2 (e ▸ List.getElem_mem _)
           rw [h] at this
           cases this
        generalize n.kids.getD 0 0 = g0 at *
        have hq0 : (((g0 : Nat) : Int) != 0) = true := by simp; omega
        have gc : wAt t n kn cn (4 * t + j) = n.kids[j] := by
         unfold wAt
         rw [if_neg (by omega), if_neg (by omega), if_neg (by omega), if_pos (by omega), Nat.add_sub_cancel_left, List.getD_eq_getElem?_getD, List.getElem?_eq_getElem jc]; rfl
        have tc : n.kids.take (j + 1) = n.kids.take j ++ [n.kids[j]] := by rw [List.take_succ_eq_append_getElem jc]
        have lcl : (n.kids.take j).length = j := by rw [List.length_take]; omega
        have hgc := fun W (hW : Below w.heap.size w W) e3 e5 => HG.out.2.2.2.2.2.1 W hW e3 e5 (4 * t + j) (by omega)
        rw [gc] at hgc
        have hc5 : ((4 * t + j : Nat) : Int) = 4 * (t : Int) + (j : Int) := by omega
        rw [hc5] at hgc
        generalize n.kids[j] = xc at *
        have HC := kq6 hgc tc lcl gb rows hg4
        have m5 : IntKind.i64.wrap (4 * (t : Int) + (j : Int)) = 4 * (t : Int) + (j : Int) := IntWalk.i64_in _ (by omega)
        clear hgc tc lcl gc gb rows jc hc5 hg4 q4 k13 hc4 hlc h0 hlt2
        gi_wp2_with fail
        refine HC.out.2.2.2.2.2.mono ?_
        rintro e w8 ⟨rfl, rfl⟩
        gi_wp2_with fail
        clear y0 y1 y2 y3 k12 hq0
        have HD := kq2 (HC.out.2.2.2.1).drew (HC.out.2.2.2.2.1).drew
        obtain ⟨I, hIi, hIo⟩ : ∃ I : World → Prop, (∀ w', I w' → w'.heap[b12]? = some (.cells #[.func (.func 214) #[] #[PV w.heap.size, PV (w.heap.size + 1)]] 219 (0, 0))) ∧ (∀ w', w'.heap[b12]? = some (.cells #[.func (.func 214) #[] #[PV w.heap.size, PV (w.heap.size + 1)]] 219 (0, 0)) → I w') := ⟨fun w' => w'.heap[b12]? = some (.cells #[.func (.func 214) #[] #[PV w.heap.size, PV (w.heap.size + 1)]] 219 (0, 0)), fun _ h => h, fun _ h => h⟩
        have hz0 := fun x : Keeps I => hIi _ x.ok
        have o0 : ∀ x : Keeps I, x.to.cell? ⟨b12, 0, none⟩ = some (.func (.func 214) #[] #[PV w.heap.size, PV (w.heap.size + 1)]) := fun x => by rw [cell_of_block (hz0 x)]; rfl
        have hI0 : I wr.drew := hIo _ HD.out.1.k12
        have HI := Lib.hid hIo
        clear hIi hIo hz0
        refine wpInW_region_plan I (.take 0 (.take 2 (.take 3 (.take 4 (.take 5 (.take 6 (.two 1 7 (.go 7 (.go 8 (.go 9 (.take 10 (.go 11 .nil))))) (.two 1 8 (.go 8 (.go 9 (.take 10 (.go 11 .nil)))) (.go 1 (.go 9 (.take 10 (.go 11 .nil)))))))))))) (by kernel_rfl) (by kernel_rfl) (by kernel_rfl) hI0 ?_
        clear hI0
        generalize wr.drew = W at *
        iterate 6
         refine' plan_take _ (by rfl) _ (by rfl) ?_ ?_
         rotate_left
         · rintro _ ⟨x, rfl⟩
           have hxo0 := o0 x
           go_simp
           try with_reducible rfl
         try simp only [pu]
        refine plan_two ?_ ?_
        focus
         have k13 := HD.out.1.k13
         obtain ⟨y0, y1, y2, y3⟩ := cells4 k13
         refine pD fun K hK => ?_
         go_simp
         try go_simp
         refine hK.out _ _ (HI.out _ (HD.out.1.k12)) ?_
         clear hK K
         try simp only [pu]
         clear y0 y1 y2 y3 k13
         refine pD fun K hK => ?_
         go_simp
         refine (HC.out.1 _ HD.out.1.below HD.out.1.b3 HD.out.1.b5).mono ?_
         rintro e w3 ⟨rfl, rfl⟩
         try go_simp
         refine hK.out _ _ (HI.out _ (HD.out.1.k12)) ?_
         clear hK K
         try simp only [pu]
         refine pD fun K hK => ?_
         go_simp
         have g2 : GBox w (W.alloc (.cells #[.int .u64 xc] 83)) ps hh b12 (.slice Ak kn ck) (vv) (vc) sz := HD.out.1.grown (row := none) (World.grownBy_alloc _ _ _) (fun g e => nomatch e)
         try go_simp
         refine hK.out _ _ (HI.out _ (g2.k12)) ?_
         clear hK K
         try simp only [pu]
         obtain ⟨v', W2, hr, ho, hg, hv⟩ := append_handle HD.out.2.c (by rw [HC.out.2.2.1]; omega) xc HD.out.1.size 229
         have g3 := HD.out.1.grown hg fun g e => (HD.out.2.c.ge g e).1
         have gs := step_row2 HD.out.1 HD.out.2 ho hg hv
         obtain ⟨sA, sM, sC, rfl⟩ := ho.slice
         clear ho hg hv
         have HS := Lib.hid gs
         clear gs
         refine plan_do _ (by rfl) (by rfl) (fun K hK => wp_append _ _ _ rfl rfl rfl hr ?_)
         clear hr
         try go_simp
         refine hK.out _ _ (HI.out _ (g3.k12)) ?_
         clear hK K
         try simp only [pu]
         refine' plan_take _ (by rfl) _ (by rfl) ?_ ?_
         rotate_left
         · rintro _ ⟨x, rfl⟩
           go_simp
           try with_reducible rfl
         try simp only [pu]
         have k13 := g3.k13
         obtain ⟨y0, y1, y2, y3⟩ := cells4 k13
         obtain ⟨f0, f1, f2, f3⟩ := frees4 k13
         clear k13 g3
         refine pD fun K hK => ?_
         go_simp
         clear y0 f0 y1 f1 y2 f2 y3 f3
         generalize hW : W2.setCell ⟨b12 + 1, 2, none⟩ (.slice sA sM sC) = wr2 at *
         try go_simp
         refine hK.out _ _ (HI.out _ (HS.out.1.k12)) ?_
         clear hK K
         try simp only [pu]
         refine plan_end ?_
         have HJ := HS
         generalize Value.slice sA sM sC = vc2 at *
         clear hW HS g2 HD HI o0 I W2
         generalize W.heap.size = wr2q
         clear W
        rotate_left
        focus
         refine pD fun K hK => ?_
         go_simp
         refine (HC.out.1 _ HD.out.1.below HD.out.1.b3 HD.out.1.b5).mono ?_
         rintro e w3 ⟨rfl, rfl⟩
         try go_simp
         refine hK.out _ _ (HI.out _ (HD.out.1.k12)) ?_
         clear hK K
         try simp only [pu]
         refine plan_two ?_ ?_
         focus
          have k13 := HD.out.1.k13
          obtain ⟨y0, y1, y2, y3⟩ := cells4 k13
          refine pD fun K hK => ?_
          go_simp
          try go_simp
          refine hK.out _ _ (HI.out _ (HD.out.1.k12)) ?_
          clear hK K
          try simp only [pu]
          clear y0 y1 y2 y3 k13
          refine pD fun K hK => ?_
          go_simp
          have g2 : GBox w (W.alloc (.cells #[.int .u64 xc] 83)) ps hh b12 (.slice Ak kn ck) (vv) (vc) sz := HD.out.1.grown (row := none) (World.grownBy_alloc _ _ _) (fun g e => nomatch e)
          try go_simp
          refine hK.out _ _ (HI.out _ (g2.k12)) ?_
          clear hK K
          try simp only [pu]
          obtain ⟨v', W2, hr, ho, hg, hv⟩ := append_handle HD.out.2.c (by rw [HC.out.2.2.1]; omega) xc HD.out.1.size 229
          have g3 := HD.out.1.grown hg fun g e => (HD.out.2.c.ge g e).1
          have gs := step_row2 HD.out.1 HD.out.2 ho hg hv
          obtain ⟨sA, sM, sC, rfl⟩ := ho.slice
          clear ho hg hv
          have HS := Lib.hid gs
          clear gs
          refine plan_do _ (by rfl) (by rfl) (fun K hK => wp_append _ _ _ rfl rfl rfl hr ?_)
          clear hr
          try go_simp
          refine hK.out _ _ (HI.out _ (g3.k12)) ?_
          clear hK K
          try simp only [pu]
          refine' plan_take _ (by rfl) _ (by rfl) ?_ ?_
          rotate_left
          · rintro _ ⟨x, rfl⟩
            go_simp
            try with_reducible rfl
          try simp only [pu]
          have k13 := g3.k13
          obtain ⟨y0, y1, y2, y3⟩ := cells4 k13
          obtain ⟨f0, f1, f2, f3⟩ := frees4 k13
          clear k13 g3
          refine pD fun K hK => ?_
          go_simp
          clear y0 f0 y1 f1 y2 f2 y3 f3
          generalize hW : W2.setCell ⟨b12 + 1, 2, none⟩ (.slice sA sM sC) = wr2 at *
          try go_simp
          refine hK.out _ _ (HI.out _ (HS.out.1.k12)) ?_
          clear hK K
          try simp only [pu]
          refine plan_end ?_
          have HJ := HS
          generalize Value.slice sA sM sC = vc2 at *
          clear hW HS g2 HD HI o0 I W2
          generalize W.heap.size = wr2q
          clear W
         rotate_left
         focus
          refine pD fun K hK => ?_
          go_simp
          have g2 : GBox w (W.alloc (.cells #[.int .u64 xc] 83)) ps hh b12 (.slice Ak kn ck) (vv) (vc) sz := HD.out.1.grown (row := none) (World.grownBy_alloc _ _ _) (fun g e => nomatch e)
          try go_simp
          refine hK.out _ _ (HI.out _ (g2.k12)) ?_
          clear hK K
          try simp only [pu]
          have k13 := g2.k13
          obtain ⟨y0, y1, y2, y3⟩ := cells4 k13
          refine pD fun K hK => ?_
          go_simp
          try go_simp
          refine hK.out _ _ (HI.out _ (g2.k12)) ?_
          clear hK K
          try simp only [pu]
          clear y0 y1 y2 y3 k13
          obtain ⟨v', W2, hr, ho, hg, hv⟩ := append_handle HD.out.2.c (by rw [HC.out.2.2.1]; omega) xc HD.out.1.size 229
          have g3 := HD.out.1.grown hg fun g e => (HD.out.2.c.ge g e).1
          have gs := step_row2 HD.out.1 HD.out.2 ho hg hv
          obtain ⟨sA, sM, sC, rfl⟩ := ho.slice
          clear ho hg hv
          have HS := Lib.hid gs
          clear gs
          refine plan_do _ (by rfl) (by rfl) (fun K hK => wp_append _ _ _ rfl rfl rfl hr ?_)
          clear hr
          try go_simp
          refine hK.out _ _ (HI.out _ (g3.k12)) ?_
          clear hK K
          try simp only [pu]
          refine' plan_take _ (by rfl) _ (by rfl) ?_ ?_
          rotate_left
          · rintro _ ⟨x, rfl⟩
            go_simp
            try with_reducible rfl
          try simp only [pu]
          have k13 := g3.k13
          obtain ⟨y0, y1, y2, y3⟩ := cells4 k13
          obtain ⟨f0, f1, f2, f3⟩ := frees4 k13
          clear k13 g3
          refine pD fun K hK => ?_
          go_simp
          clear y0 f0 y1 f1 y2 f2 y3 f3
          generalize hW : W2.setCell ⟨b12 + 1, 2, none⟩ (.slice sA sM sC) = wr2 at *
          try go_simp
          refine hK.out _ _ (HI.out _ (HS.out.1.k12)) ?_
          clear hK K
          try simp only [pu]
          refine plan_end ?_
          have HJ := HS
          generalize Value.slice sA sM sC = vc2 at *
          clear hW HS g2 HD HI o0 I W2
          generalize W.heap.size = wr2q
          clear W
        all_goals
         gi_wp2_with fail
         refine ⟨⟨j + 1, by omega, by simp, vc2, HJ.out.1, by rw [HC.out.2.1]; exact HJ.out.2⟩, ?_⟩
         show kn + 1 - ((j : Int) + 1).toNat < kn + 1 - (j : Int).toNat
         omega
      · have tc : n.kids.take j = n.kids := List.take_of_length_le (by omega)
        rw [tc] at rows
        have HC := kq3 gb rows hg4
        clear gb rows hg4 k13 tc
        by_cases hc0 : cn = 0
        · have hj0 : j = 0 := by omega
          subst hj0
          have q0 : n.kids.getD 0 0 = 0 := by rw [List.getD_eq_getElem?_getD, List.getElem?_eq_none (by omega)]; rfl
          rw [q0] at HC
          have hkn2 : ((0 : Nat) : Int) ≤ kn := by omega
          clear q0 q4 hc4 hlc hlt2
          gi_wp2_with fail
          refine HC.out.2.2.mono ?_
          rintro e w8 ⟨rfl, rfl⟩
          gi_wp2_with fail
          gi_meet
          case rel => exact ⟨vc, HC.out.1, HC.out.2.1⟩
        · have hj1 : j = kn + 1 := by omega
          subst hj1
          have hkn2 : ¬ (((kn + 1 : Nat) : Int) ≤ kn) := by omega
          have hkn3 : ¬ ((kn : Int) + 1 ≤ kn) := by omega
          have hkn4 : ¬ (kn + 1 ≤ kn) := by omega
          clear q4 hc4 hlc hlt2
          gi_wp2_with fail
          refine ⟨fun _ _ => trivial, ?_⟩
          gi_wp2_with fail
          gi_meet
          case rel => exact ⟨vc, HC.out.1, HC.out.2.1⟩
    case rest =>
     clear R1
     obtain ⟨vc, gb, rows⟩ := hcut
     have hsz := HG.out.2.2.2.2.2.2.2.2.2.2.2.1
     have hnn := HG.out.2.2.2.2.2.2.2.2.1
     obtain ⟨Av, cv, rfl⟩ : ∃ A c, vv = .slice A kn c := by have := rows.v.slice2; rw [hnn.vals, HG.out.2.2.2.2.2.2.2.2.2.1] at this; exact this
     obtain ⟨Ac, cc, rfl⟩ : ∃ A c, vc = .slice A cn c := by have := rows.c.slice2; rw [HG.out.2.2.2.2.2.2.2.2.2.2.1] at this; exact this
     have hfi : CallsIn Fence.wide 6 Tryz.prog 215 #[.int .i64 t, bnV (.slice Ak kn ck) (.slice Av kn cv) (.slice Ac cn cc) n.size] wc _ := callsIn_wide.2 (bnode_fits hnn rows.k.hrow rows.v.hrow rows.c.hrow)
     have hwo := fun W (hW : Below wc.heap.size wc W) => (callsIn_wide (n := 6)).2 (bnode_row (w := W) hnn (rows.k.hrow.below hW) (rows.v.hrow.below hW) (rows.c.hrow.below hW))
     unfold bnV at hfi hwo
     rw [hsz] at hfi
     simp only [hsz, HG.out.2.2.2.2.2.2.2.2.2.1, HG.out.2.2.2.2.2.2.2.2.2.2.1] at hwo
     have k13 := gb.k13
     obtain ⟨y0, y1, y2, y3⟩ := cells4 k13
     have HC := kq3 hwo gb rows
     have HF := Lib.hid hfi
     clear hwo gb rows k13 hfi hnn hsz
     gi_wp2_with fail
     refine HF.out.mono ?_
     rintro e w8 ⟨rfl, hb8⟩
     clear y0 y1 y2 y3 HF
     have g8 := HC.out.2.1.up hb8
     have k13 := g8.k13
     obtain ⟨y0, y1, y2, y3⟩ := cells4 k13
     have H8 := kq3 hb8 g8 (HC.out.2.2.below hb8)
     clear hb8 g8 k13
     gi_wp2_with fail
     refine (HC.out.1 _ H8.out.1).mono ?_
     rintro e w9 ⟨Bx, rfl, hBx, rB, rG, hb9⟩
     have g9 := H8.out.2.1.up hb9
     have r9 := H8.out.2.2.below hb9
     obtain ⟨f, hf⟩ : ∃ f, wAt t n kn cn = f := ⟨_, rfl⟩
     rw [hf] at rG
     have hfl : ∀ j, j < 6 * t → f j < 18446744073709551616 := fun j hj => HG.out.2.2.2.2.2.2.2.2.2.2.2.2 _ (by
      unfold bnWords
      rw [HG.out.2.2.2.2.2.2.2.2.2.1, HG.out.2.2.2.2.2.2.2.2.2.2.1, hf]
      exact List.mem_map.2 ⟨j, List.mem_range.2 hj, rfl⟩)
     have hGl := (gl rG)
     have hall := all_stops (by omega) hfl rB rG (fun k => k = w8.heap.size + 1) rfl
     have k13 := g9.k13
     have H9 := kq3 g9 r9 hf
     clear g9 r9 hf y0 y1 y2 y3 hb9 rB rG
     gi_wp2_with fail
     refine wpIn_rangeFunc_ownH rfl h1 (gf := 261) (lb := #[PV Bx]) rfl trivial (enters_of Tryz.func261 (by kernel_rfl) rfl)
      hall KpR.trans (fun W l o o' q1 q2 q3 q4 => ⟨by simp, fun k hk => World.putObj_heap_other (by omega)⟩) (Below.refl _ _) (fun _ => rfl)
      (fun _ W => Below w9.heap.size w9 W)
      (fun cd pre _ => cd = .ret ∧ ∃ x ∈ pre, x.1.2 ≠ f x.1.1)
      (fun pre W W' row hs hg hr => ⟨hg.os.trans hs.os, hg.tape.trans hs.tape, hg.output.trans hs.output, Nat.le_trans hs.size hg.size, fun k hk => (hg.block k (Nat.lt_of_lt_of_le hk hs.size) (fun e => by have := (hr k e.symm).1; omega)).trans (hs.block k hk)⟩)
      (fun _ _ _ _ _ hs _ _ => hs)
      (Below.refl _ _)
      (fun x a' _ => a' = { tmps := #[PV ps, .int .i64 t, .int .u64 hh, PV w.heap.size, undef, PV (w.heap.size + 1), PV (w.heap.size + 1 + 1), PV (w.heap.size + 1 + 1 + 1), .int .i64 0, .int .i64 7, .int .i64 (6 * (t : Int)), .int .i64 0, PV b12, PV (b12 + 1), u14, u15, .int .i64 x.1.1, .int .u64 x.1.2, .tuple #[.int .i64 0, .int .i64 7], PV ps, .tuple #[.int .i64 0, .int .i64 7], .int .i64 0, .int .i64 7, .int .i64 7, .bool false, undef, undef, .int .i64 t, .bool true, .bool false, undef, .tuple #[.int .i64 (6 * (t : Int)), .int .i64 0], PV ps, .int .u64 hh, .tuple #[.int .i64 (6 * (t : Int)), .int .i64 0], .int .i64 (6 * (t : Int)), .int .i64 0, .bool false, .int .i64 0, .bool false, undef, undef, .bool false, .int .i64 (6 * (t : Int)), .int .i64 t, .int .i64 (6 * (t : Int)), .bool false, undef, .func (.func 214) #[] #[PV w.heap.size, PV (w.heap.size + 1)], .func (.func 214) #[] #[PV w.heap.size, PV (w.heap.size + 1)], .int .u64 kn, .int .i64 t, .int .i64 (2 * (t : Int)), .int .i64 (2 * (t : Int) - 1), .int .u64 (2 * (t : Int) - 1), .bool false, undef, .func (.func 214) #[] #[PV w.heap.size, PV (w.heap.size + 1)], .int .u64 sz, .agg #[.slice none 0 0, .slice none 0 0, .slice none 0 0, .int .u64 sz], .func (.func 214) #[] #[PV w.heap.size, PV (w.heap.size + 1)], .int .u64 kn, .int .i64 kn, .int .i64 kn, .bool false, u65, u66, u67, u68, u69, u70, u71, u72, u73, u74, u75, u76, u77, u78, u79, u80, u81, u82, u83, u84, u85, u86, u87, u88, u89, u90, u91, u92, u93, u94, u95, u96, u97, u98, u99, u100, u101, u102, u103, u104, u105, u106, u107, u108, u109, u110, u111, u112, .int .i64 t, .agg #[.slice Ak kn ck, (.slice Av kn cv), (.slice Ac cn cc), .int .u64 sz], .bool true, .bool false, u117, .int .i64 t, .agg #[.slice Ak kn ck, (.slice Av kn cv), (.slice Ac cn cc), .int .u64 sz], .func (.func 261) #[] #[PV Bx], .int .i64 x.1.1, .int .u64 x.1.2, u123, u124, u125, u126, u127, u128, u129], defers := [] })
      (fun x a' _ X W' row hs hg hr => hs)
      ?assign ?body ?done ?stop
     case assign =>
      rintro l pre ⟨⟨i, x⟩, hx⟩ W K hI hK
      have HK := Lib.hid hK
      clear hK
      simp only [encW]
      gi_wp2
      exact HK.out _ _ (KeepsFrom.refl _ _) (KpR.refl _ _) hI rfl
     case body =>
      rintro l pre ⟨⟨i, x⟩, hx⟩ a' W hl' _ hI rfl hlt
      simp only at hx ⊢
      have g := H9.out.1.up hI
      have k12 : W.cell? ⟨b12, 0, none⟩ = some (.func (.func 214) #[] #[PV w.heap.size, PV (w.heap.size + 1)]) := by rw [cell_of_block g.k12]; rfl
      have hcl : CallsIn Fence.wide 4 Tryz.prog 214 #[.int .i64 i, PV w.heap.size, PV (w.heap.size + 1)] W _ := callsIn_wide.2 (HG.out.2.2.2.2.2.1 W g.below g.b3 g.b5 i hx.1)
      rw [H9.out.2.2] at hcl
      have e6 := g.b6
      have e7 := g.b7
      obtain ⟨c0, c1, c2, c3⟩ := cells4 e6
      obtain ⟨p0, p1, p2, p3⟩ := frees4 e6
      have d0 : (W).cell? ⟨w.heap.size + 1 + 1 + 1, 0, none⟩ = some (.int .i64 0) := by rw [cell_of_block e7]; rfl
      have q0 : (W).frozen? ⟨w.heap.size + 1 + 1 + 1, 0, none⟩ = false := frozen_of_block e7
      have HH := kq2 hI hcl
      have HX := Lib.hid hx
      clear hI hcl hall g e6 e7
      by_cases hfx : x = f i
      · have hq : (((f i : Nat) : Int) != x) = false := by simp; omega
        gi_wp2_with fail
        refine (CallsIn.inRound l HH.out.2).mono ?_
        rintro e w10 ⟨rfl, rfl⟩
        gi_wp2_with fail
        exact ⟨KeepsFrom.refl _ _, KpR.refl _ _, HH.out.1⟩
      · have hq : (((f i : Nat) : Int) != x) = true := by simp; omega
        have hq2 : ¬ ((f i : Nat) : Int) = x := by omega
        gi_wp2_with fail
        refine (CallsIn.inRound l HH.out.2).mono ?_
        rintro e w10 ⟨rfl, rfl⟩
        gi_wp2_with fail
        exact ⟨((((((KeepsOthers.setCell _ _ _).trans (KeepsOthers.setCell _ _ _)).trans (KeepsOthers.setCell _ _ _)).trans (KeepsOthers.setCell _ _ _)).trans (KeepsOthers.setCell _ _ _)).from _), rfl, ⟨⟨(i, x), HX.out⟩, by simp, hfx⟩⟩
     case done =>
      rintro D ys W hD hS hI hK
      have g := H9.out.1.up hI
      have e6 := g.b6
      have e7 := g.b7
      have k13 := g.k13
      have hsz9 := H9.out.1.size
      have hbl : w.heap.size + 4 ≤ b12 := Nat.le_of_eq g.at12.symm
      have hDl : b12 + 2 ≤ D := by omega
      obtain ⟨y0, y1, y2, y3⟩ := cells4 k13
      obtain ⟨c0, c1, c2, c3⟩ := cells4 e6
      obtain ⟨p0, p1, p2, p3⟩ := frees4 e6
      have d0 : (W).cell? ⟨w.heap.size + 1 + 1 + 1, 0, none⟩ = some (.int .i64 0) := by rw [cell_of_block e7]; rfl
      have q0 : (W).frozen? ⟨w.heap.size + 1 + 1 + 1, 0, none⟩ = false := frozen_of_block e7
      have a6 := st4_heap (u0 := .slice Ak kn ck) (u1 := (.slice Av kn cv)) (u2 := (.slice Ac cn cc)) (u3 := .int .u64 sz) e6
      have B6 := st4_below (u0 := .slice Ak kn ck) (u1 := (.slice Av kn cv)) (u2 := (.slice Ac cn cc)) (u3 := .int .u64 sz) (b := w.heap.size + 1 + 1) g.below (by omega)
      have o6 : ∀ k, k ≠ w.heap.size + 1 + 1 → _ := fun k hk => st4_other (w := W) (b := w.heap.size + 1 + 1) (k := k) (u0 := .slice Ak kn ck) (u1 := (.slice Av kn cv)) (u2 := (.slice Ac cn cc)) (u3 := .int .u64 sz) hk
      have a7 := heap_setCell (i := 0) (v := .int .i64 0) ((o6 (w.heap.size + 1 + 1 + 1) (by omega)).trans e7)
      have HK := kq6 hI hK a6 B6 o6 a7
      clear hI hK hS hall g e6 e7 k13 a6 B6 o6 a7
      gi_wp2_with fail
      obtain ⟨hI, hK, a6, B6, o6, a7⟩ := HK.out
      clear HK
      generalize hW5 : ((((W.setCell ⟨w.heap.size + 1 + 1, 0, none⟩ (.slice Ak kn ck)).setCell ⟨w.heap.size + 1 + 1, 1, none⟩ ((.slice Av kn cv))).setCell ⟨w.heap.size + 1 + 1, 2, none⟩ ((.slice Ac cn cc))).setCell ⟨w.heap.size + 1 + 1, 3, none⟩ (.int .u64 sz)) = W5 at *
      have kD5 : W5.heap[D]? = some (.deferred (some [])) := (o6 D (by omega)).trans hK
      have n7 : ∀ k, k ≠ w.heap.size + 1 + 1 + 1 → (W5.setCell ⟨w.heap.size + 1 + 1 + 1, 0, none⟩ (.int .i64 0)).heap[k]? = W5.heap[k]? := fun k hk => heap_setCell_ne hk
      have kD6 := (n7 D (by omega)).trans kD5
      have b6 := (n7 (w.heap.size + 1 + 1) (by omega)).trans a6
      have B7 := B6.setCell (p := ⟨w.heap.size + 1 + 1 + 1, 0, none⟩) (by show w.heap.size ≤ w.heap.size + 1 + 1 + 1; omega) (.int .i64 0)
      generalize hW6 : W5.setCell ⟨w.heap.size + 1 + 1 + 1, 0, none⟩ (.int .i64 0) = W6 at *
      refine ⟨by simp, .inl ⟨_, _, rfl, run_takeDeferred kD6, ?_⟩⟩
      have hpo : ∀ k, k ≠ D → (W6.putObj D (.deferred none)).heap[k]? = W6.heap[k]? := fun k hk => World.putObj_heap_other hk
      have z6 := (hpo (w.heap.size + 1 + 1) (by omega)).trans b6
      have z7 := (hpo (w.heap.size + 1 + 1 + 1) (by omega)).trans a7
      have BF : Below w.heap.size w (W6.putObj D (.deferred none)) := B7.trans (belowK_b (w := w) (Nat.le_refl _) W6 D _ _ (by omega) kD6 rfl rfl)
      have RF := H9.out.2.1.lift (W' := W6.putObj D (.deferred none)) (D' := w.heap.size) (by omega) fun k hk1 hk2 => ((hpo k (by omega)).trans ((n7 k (by omega)).trans (o6 k (by omega)))).trans (hI.block k hk2)
      obtain ⟨e0, e1, e2, e3⟩ := cells4 z6
      have d0 : (W6.putObj D (.deferred none)).cell? ⟨w.heap.size + 1 + 1 + 1, 0, none⟩ = some (.int .i64 0) := by rw [cell_of_block z7]; rfl
      refine ⟨.tuple #[.agg #[.slice Ak kn ck, (.slice Av kn cv), (.slice Ac cn cc), .int .u64 sz], .int .i64 0], ?_, .slice Ak kn ck, (.slice Av kn cv), (.slice Ac cn cc), by rw [HG.out.2.2.2.2.2.2.2.2.2.2.2.1]; rfl, RF, BF⟩
      simp [results, Tryz.f195, go_sem, e0, e1, e2, e3, d0]
     case stop =>
      rintro D cd pre W _ ⟨tl, hpre⟩ ⟨rfl, x, hx, hne⟩
      exfalso
      have hm : x.1 ∈ rowP f (6 * t) := by rw [← hpre]; exact List.mem_append_left _ (List.mem_map.2 ⟨x, hx, rfl⟩)
      obtain ⟨j, _, e⟩ := List.mem_map.1 hm
      rw [← e] at hne
      exact hne rfl
end Go.Proofs.YtcibkdbpicledaaGreatDoor
namespace Go.Proofs.YtcibkdbpicledaaGreatDoor
open Go.RowKit Go.BigFrame Go.Maps Go.WideMaps Lf Tr
theorem bt_get {w : World} {ps : Nat} {S : St} {Y : Nat → Prop} (h : StOn w ps S Y) (hi : Inv S) {t hh : Nat} {n : BN} (hb : BnAt S t hh n) :
 Calls Tryz.prog 182 #[trB ps t, .int .u64 hh] w fun e w' => ∃ vk vv vc, e = .returned (.tuple #[bnV vk vv vc n.size, .bool true]) ∧ Rows3 w' w.heap.size vk vv vc n.keys n.vals n.kids ∧ Below w.heap.size w w' := by
 have B0 := ((Below.refl w.heap.size w).alloc (Nat.le_refl _) (.cells #[PV ps, .int .i64 t] 254)).alloc (by simp) (.cells #[.slice none 0 0, .slice none 0 0, .slice none 0 0, .int .u64 0] 286)
 have z1 : (w.alloc (.cells #[PV ps, .int .i64 t] 254)).heap.size = w.heap.size + 1 := by simp
 have q1 := heap_alloc_new w (.cells #[PV ps, .int .i64 t] 254)
 have q2 := heap_alloc_new (w.alloc (.cells #[PV ps, .int .i64 t] 254)) (.cells #[.slice none 0 0, .slice none 0 0, .slice none 0 0, .int .u64 0] 286)
 have q3 := (((Below.refl (w.alloc (.cells #[PV ps, .int .i64 t] 254)).heap.size (w.alloc (.cells #[PV ps, .int .i64 t] 254))).alloc (Nat.le_refl _) (.cells #[.slice none 0 0, .slice none 0 0, .slice none 0 0, .int .u64 0] 286)).block w.heap.size (by simp)).trans q1
 rw [z1] at q2
 generalize hW : (w.alloc (.cells #[PV ps, .int .i64 t] 254)).alloc (.cells #[.slice none 0 0, .slice none 0 0, .slice none 0 0, .int .u64 0] 286) = W0 at *
 obtain ⟨sz, hsz⟩ : ∃ sz, n.size = sz := ⟨_, rfl⟩
 have hg := bnode_get (h.below B0) hi hb.ok hh hb.lt hb.len hb.get hb.words
 unfold bnV at hg
 rw [hsz] at hg
 obtain ⟨c0, c1⟩ := cells2 q3
 have hz : w.heap.size + 2 ≤ W0.heap.size := by rw [← hW]; simp
 unfold trB
 have HG := kq5 hg B0 q2 hW hz
 clear hg B0 h hi hb q1 q2 q3 z1 hz
 go_enter Tryz.func182, Tryz.ntmps182
 go_wp2_with fail
 refine HG.out.1.mono ?_
 rintro e w1 ⟨vk, vv, vc, rfl, rows, hb⟩
 obtain ⟨Ak, ck, rfl⟩ := rows.k.slice2
 obtain ⟨Av, cv, rfl⟩ := rows.v.slice2
 obtain ⟨Ac, cc, rfl⟩ := rows.c.slice2
 obtain ⟨ks, hks⟩ : ∃ l, n.keys = l := ⟨_, rfl⟩
 obtain ⟨vs, hvs⟩ : ∃ l, n.vals = l := ⟨_, rfl⟩
 obtain ⟨cs, hcs⟩ : ∃ l, n.kids = l := ⟨_, rfl⟩
 rw [hks, hvs, hcs] at rows ⊢
 rw [hks, hvs, hcs] at HG
 generalize hlk : ks.length = lk at rows ⊢
 generalize hlv : vs.length = lv at rows ⊢
 generalize hlc : cs.length = lc at rows ⊢
 have A1 := (Below.refl w1.heap.size w1).alloc (Nat.le_refl _) (.cells #[(.slice Ak lk ck), (.slice Av lv cv), (.slice Ac lc cc), .int .u64 sz] 286)
 have p1 := heap_alloc_new w1 (.cells #[(.slice Ak lk ck), (.slice Av lv cv), (.slice Ac lc cc), .int .u64 sz] 286)
 have r2 := (A1.block (w.heap.size + 1) (by have := hb.size; have := HG.out.2.2.2.2; omega)).trans ((hb.block (w.heap.size + 1) (by have := HG.out.2.2.2.2; omega)).trans HG.out.2.2.1)
 have hne : w.heap.size + 1 ≠ w1.heap.size := by have := hb.size; have := HG.out.2.2.2.2; omega
 have BA := HG.out.2.1.trans ((hb.trans (A1.mono hb.size)).mono HG.out.2.1.size)
 have rowsA := rows.lift (W' := w1.alloc (.cells #[(.slice Ak lk ck), (.slice Av lv cv), (.slice Ac lc cc), .int .u64 sz] 286)) (D' := W0.heap.size) (Nat.le_refl _) fun g _ hg => A1.block g hg
 have r1 := (hb.block (w.heap.size + 1) (by have := HG.out.2.2.2.2; omega)).trans HG.out.2.2.1
 have HB := kq6 rowsA BA r2 p1 r1 hne
 clear rows hb A1 p1 r2 BA rowsA hne r1
 obtain ⟨W1, hW1⟩ : ∃ W1, w1.alloc (.cells #[(.slice Ak lk ck), (.slice Av lv cv), (.slice Ac lc cc), .int .u64 sz] 286) = W1 := ⟨_, rfl⟩
 rw [hW1] at HB
 have r2 := HB.out.2.2.1
 have p1 := HB.out.2.2.2.1
 obtain ⟨x0, x1, x2, x3⟩ := cells4 p1
 obtain ⟨y0, y1, y2, y3⟩ := cells4 r2
 obtain ⟨f0, f1, f2, f3⟩ := frees4 r2
 clear r2 p1
 go_wp2_with fail
 have e5 := st4_heap (u0 := (.slice Ak lk ck)) (u1 := (.slice Av lv cv)) (u2 := (.slice Ac lc cc)) (u3 := .int .u64 sz) HB.out.2.2.1
 have B5 := st4_below (u0 := (.slice Ak lk ck)) (u1 := (.slice Av lv cv)) (u2 := (.slice Ac lc cc)) (u3 := .int .u64 sz) (b := w.heap.size + 1) HB.out.2.1 (by omega)
 have R5 := HB.out.1.lift (W' := ((((W1.setCell ⟨w.heap.size + 1, 0, none⟩ ((.slice Ak lk ck))).setCell ⟨w.heap.size + 1, 1, none⟩ ((.slice Av lv cv))).setCell ⟨w.heap.size + 1, 2, none⟩ ((.slice Ac lc cc))).setCell ⟨w.heap.size + 1, 3, none⟩ (.int .u64 sz))) (D' := w.heap.size) (by have := HG.out.2.2.2.2; omega) fun g hg _ => st4_other (by have := HG.out.2.2.2.2; omega)
 generalize ((((W1.setCell ⟨w.heap.size + 1, 0, none⟩ ((.slice Ak lk ck))).setCell ⟨w.heap.size + 1, 1, none⟩ ((.slice Av lv cv))).setCell ⟨w.heap.size + 1, 2, none⟩ ((.slice Ac lc cc))).setCell ⟨w.heap.size + 1, 3, none⟩ (.int .u64 sz)) = W9 at *
 obtain ⟨e0, e1, e2, e3⟩ := cells4 e5
 exact bodyPost_ret (v := .tuple #[.agg #[(.slice Ak lk ck), (.slice Av lv cv), (.slice Ac lc cc), .int .u64 sz], .bool true]) (by simp [results, Tryz.f182, go_sem, e0, e1, e2, e3]) rfl ⟨.slice Ak lk ck, .slice Av lv cv, .slice Ac lc cc, by rw [hsz]; rfl, by rw [hks, hvs, hcs]; exact R5, B5⟩
theorem bt_size {w : World} {ps : Nat} {S : St} {Y : Nat → Prop} (h : StOn w ps S Y) (hi : Inv S) {t hh : Nat} {n : BN} (hb : BnAt S t hh n) (hz : n.size < 4611686018427387904) :
 Calls Tryz.prog 163 #[trB ps t, .int .u64 hh] w fun e w' => e = .returned (.int .i64 n.size) ∧ Below w.heap.size w w' := by
 have B0 := (Below.refl w.heap.size w).alloc (Nat.le_refl _) (.cells #[PV ps, .int .i64 t] 254)
 have hg := bt_get (h.below B0) hi hb
 obtain ⟨sz, hsz⟩ : ∃ sz, n.size = sz := ⟨_, rfl⟩
 unfold trB bnV at hg
 unfold trB
 rw [hsz] at hz hg ⊢
 have hw : IntKind.i64.wrap (sz : Int) = (sz : Int) := IntWalk.i64_in _ (by omega)
 have HG := kq2 hg B0
 clear hg B0 h hi hb
 go_enter Tryz.func163, Tryz.ntmps163
 go_wp2_with fail
 refine HG.out.1.mono ?_
 rintro e w1 ⟨vk, vv, vc, rfl, rows, hb⟩
 obtain ⟨Ak, ck, rfl⟩ := rows.k.slice2
 obtain ⟨Av, cv, rfl⟩ := rows.v.slice2
 obtain ⟨Ac, cc, rfl⟩ := rows.c.slice2
 generalize n.keys.length = lk at *
 generalize n.vals.length = lv at *
 generalize n.kids.length = lc at *
 clear rows
 have HB := Lib.hid ((HG.out.2.trans (hb.mono HG.out.2.size)).alloc (Nat.le_trans HG.out.2.size hb.size) (.cells #[.slice Ak lk ck, .slice Av lv cv, .slice Ac lc cc, .int .u64 sz] 286))
 clear hb
 go_wp2_with fail
 go_ret
 exact ⟨rfl, HB.out⟩
