/- The heap: Audit of an arena without pages, New: the walks. The store: New, Words: the walks. -/
import Derived.Test.YtepdkbmnkjfcpaaGreatDoorVah
set_option maxRecDepth 100000
set_option maxHeartbeats 1600000
namespace Go.Proofs.YtepdkbmnkjfcpaaGreatDoor
open Go.RowKit Go.BigFrame Go.Maps Go.WideMaps Lf
open Go.Shelf
attribute [local go_sem] Oper.semAt_some
theorem slab_pages_nil {w : World} {pa pm : Nat} {s : Slab} {Y : Nat → Prop} {blk : Nat → Nat} (h : SlabOn w pa pm s Y blk) (hz : s.keys = []) :
    Calls Tryz.prog 136 #[PV pa] w fun e w' => e = .returned (.slice none 0 0) ∧ Below w.heap.size w w' := by
  refine (callsIn_wide (n := 6)).1 ?_
  have hbl := h.map.lt
  have c1 := h.cells.2
  have hno : CallsIn Fence.wide 5 Tryz.prog 179 #[PV pa] w _ := callsIn_wide.2 (slab_none h)
  have hmax : Maps.size (pgD s.keys blk) ≤ maxLen := by
    rw [pgD_size, keys_length]; have := h.wf.room; have := h.wf.quota; unfold maxLen; omega
  have hbytes : Maps.size (pgD s.keys blk) * 8 ≤ 140737488355328 := by
    rw [pgD_size, keys_length]; have := h.wf.room; have := h.wf.quota; omega
  have hseq : SeqGives Fence.wide 2 Tryz.prog 223 #[.pointer (some ⟨w.heap.size, 0, none⟩)] encZ (fun ss => ss.Perm (intKeys (pgD s.keys blk))) (Maps.size (pgD s.keys blk)) (w.alloc (.cells #[.map (some pm)] 151)) :=
    AnyZI.keys_gives (ρ := Tryz.keysA_ren) { Tryz.keysA with } Fence.wide _ trivial rfl (by omega) w.heap.size pm s.pages.length (pgD s.keys blk) _ (by simp) (by simp) (by
      obtain ⟨es, clock, hb, Ft, hs, hD⟩ := h.map
      exact ⟨es, clock, (Below.heap_alloc _ _ pm hbl).trans hb, Ft, hs, hD⟩)
  have cK : ∀ mb W, CallsIn Fence.wide 5 Tryz.prog 185 #[.map mb] W fun e w' => e = .returned (.func (.func 223) #[] #[.pointer (some ⟨W.heap.size, 0, none⟩)]) ∧ w' = W.alloc (.cells #[.map mb] 151) := fun mb W => AnyZI.keys_in Tryz.keysA Fence.wide 5 trivial rfl mb W
  have cS := AnyZI.sorted_in Tryz.sortedA Fence.wide 5 trivial trivial trivial trivial rfl (by omega) (sortsA _) (enters_of Tryz.func222 (by kernel_rfl) rfl) 223 #[.pointer (some ⟨w.heap.size, 0, none⟩)] trivial (enters_of Tryz.func223 (by kernel_rfl) rfl) _ _ hmax hbytes _ hseq
  change CallsIn _ _ Tryz.prog 184 _ _ _ at cS
  have hfK : Fence.wide.fn 185 := trivial
  have hfS : Fence.wide.fn 184 := trivial
  have hfN : Fence.wide.fn 179 := trivial
  have HS := Lib.hid h
  clear h hmax hbytes hseq
  refine callsIn_of_wp Tryz.func136 rfl trivial ?_ rfl
  simp only [Tryz.ntmps136, List.size_toArray, List.length_cons, List.length_nil, Nat.reduceAdd, Nat.reduceSub, Array.replicate_succ, Array.replicate_zero, List.push_toArray, List.append_toArray, List.nil_append, List.cons_append]
  gi_wp2_with (first
    | (gi_at_call 179; refine hno.mono ?_; rintro e w' ⟨rfl, rfl⟩)
    | (gi_at_call 185; refine (cK _ _).mono ?_; rintro e w' ⟨rfl, rfl⟩)
    | (gi_at_call 184; refine cS.mono ?_; rintro e w' ⟨v, ss, rfl, hS, hrow, hnil, hb⟩))
  go_ret
  obtain ⟨hl, _⟩ := sorted_keys HS.out.wf hS
  rw [hz] at hl
  obtain rfl := hnil.2 (List.length_eq_zero_iff.1 hl)
  exact ⟨rfl, ((Below.refl _ w).alloc (Nat.le_refl _) _).trans (hb.mono (by simp))⟩
theorem HeapOn.pages_nil {w : World} {ph pa pm q : Nat} {Y : Nat → Prop} (h : HeapOn w ph pa pm ⟨q, []⟩ Y) :
    Calls Tryz.prog 136 #[PV pa] w fun e w' => e = .returned (.slice none 0 0) ∧ Below w.heap.size w w' := by
  obtain ⟨blk, hs⟩ := h.slab
  exact slab_pages_nil hs rfl
theorem heap_audit_empty {w : World} {ph pa pm q : Nat} {Y : Nat → Prop} (h : HeapOn w ph pa pm ⟨q, []⟩ Y) :
    Calls Tryz.prog 99 #[PV ph] w fun e w' => e = .returned (.int .i64 0) ∧ Below w.heap.size w w' := by
  refine (callsIn_wide (n := 7)).1 ?_
  have h1 : 1 ≤ 7 := by omega
  have hfN : Fence.wide.fn 131 := trivial
  have hfH : Fence.wide.fn 132 := trivial
  have hfP : Fence.wide.fn 136 := trivial
  have hno : ∀ W, HeapOn W ph pa pm ⟨q, []⟩ Y → CallsIn Fence.wide 6 Tryz.prog 131 #[PV ph] W _ := fun W hW => callsIn_wide.2 (heap_none hW)
  have hhd : ∀ W, CallsIn Fence.wide 6 Tryz.prog 132 #[PV ph] W _ := fun W => callsIn_wide.2 (heads_any ph W)
  have HR := Lib.hid h
  clear h
  refine callsIn_of_wp_marks Tryz.func99 rfl trivial ?_ rfl
  simp only [Tryz.ntmps99, List.size_toArray, List.length_cons, List.length_nil, Nat.reduceAdd, Nat.reduceSub, Array.replicate_succ, Array.replicate_zero, List.push_toArray, List.append_toArray, List.nil_append, List.cons_append]
  gi_wp2_with fail
  have c0 := (Bx.new w (PV ph) 95).alloc (.cells #[.int .i64 0] 26)
  have c1 := Bx.new (w.alloc (.cells #[PV ph] 95)) (.int .i64 0) 26
  have hb2 : Below w.heap.size w ((w.alloc (.cells #[PV ph] 95)).alloc (.cells #[.int .i64 0] 26)) := ((Below.refl _ w).alloc (Nat.le_refl _) _).alloc (by simp) _
  simp only [World.size_alloc] at c1
  have hz2 : ((w.alloc (.cells #[PV ph] 95)).alloc (.cells #[.int .i64 0] 26)).heap.size = w.heap.size + 1 + 1 := by simp
  generalize ((w.alloc (.cells #[PV ph] 95)).alloc (.cells #[.int .i64 0] 26)) = w2 at *
  refine (hno w2 (HR.out.below hb2)).mono ?_
  rintro e w3 ⟨rfl, rfl⟩
  have k0 := c0.1
  have H2 := Lib.hid (And.intro c0 (And.intro c1 (And.intro hb2 hz2)))
  clear c0 c1 hb2
  gi_wp2_with fail
  refine (hhd _).mono ?_
  rintro e w4 ⟨rfl, rfl⟩
  gi_wp2_with fail
  have k4 : Bx (((w2.alloc (.cells #[.int .i64 0] 3)).alloc (.cells #[PV ph] 95))) (w.heap.size + 1 + 1) (.int .i64 0) := by
    have := (Bx.new w2 (.int .i64 0) 3).alloc (.cells #[PV ph] 95)
    rwa [H2.out.2.2.2] at this
  have k5 : Bx (((w2.alloc (.cells #[.int .i64 0] 3)).alloc (.cells #[PV ph] 95))) (w.heap.size + 1 + 1 + 1) (PV ph) := by
    have := Bx.new (w2.alloc (.cells #[.int .i64 0] 3)) (PV ph) 95
    rwa [World.size_alloc, H2.out.2.2.2] at this
  have c0 := (H2.out.1.alloc (.cells #[.int .i64 0] 3)).alloc (.cells #[PV ph] 95)
  have c1 := (H2.out.2.1.alloc (.cells #[.int .i64 0] 3)).alloc (.cells #[PV ph] 95)
  have hbW : Below w.heap.size w ((w2.alloc (.cells #[.int .i64 0] 3)).alloc (.cells #[PV ph] 95)) := (H2.out.2.2.1.alloc (by omega) _).alloc (by simp; omega) _
  have hszW : ((w2.alloc (.cells #[.int .i64 0] 3)).alloc (.cells #[PV ph] 95)).heap.size = w.heap.size + 1 + 1 + 1 + 1 := by simp [H2.out.2.2.2]
  clear hz2 k0
  generalize ((w2.alloc (.cells #[.int .i64 0] 3)).alloc (.cells #[PV ph] 95)) = W0 at *
  have hW := HR.out.wide hbW
  refine wpIn_rangeFunc_ownH rfl h1 (gf := 180) (lb := #[PV (w.heap.size + 1 + 1 + 1)]) rfl trivial (enters_of Tryz.func180 (by kernel_rfl) rfl)
    (heads_stops hW (Z := fun _ => False) (fun k hk => hk.elim) (w.heap.size + 1 + 1 + 1) k5.1 id) KpZ.trans (fun W l o o' h1 h2 h3 h4 => KpZ.put W l o o' h1 h2 h3 h4) (Below.refl _ _) (fun _ => rfl)
    (fun _ W => (Bx W w.heap.size (PV ph) ∧ Bx W (w.heap.size + 1) (.int .i64 0) ∧ Bx W (w.heap.size + 1 + 1) (.int .i64 0)) ∧ Below w.heap.size w W)
    (fun _ _ _ => False)
    (OwnFrom.and (Own.from (fun s A B row hs hg hr => ⟨hs.1.kept hg hr, hs.2.1.kept hg hr, hs.2.2.kept hg hr⟩) _) (ownFrom_below (Nat.le_refl _) (by omega)))
    (fun cd => Own.from (fun s A B row hs hg hr => hs) _)
    ⟨⟨c0, c1, k4⟩, hbW⟩
    (fun x a' W => True) (fun x a' _ X W' row hs hg hr => trivial)
    ?assign ?body ?done ?stop
  case assign =>
    rintro l pre ⟨⟨p, kd, xn, xw⟩, hx⟩ W K ⟨⟨i0, i1, i2⟩, hB⟩ hK
    have HH := Lib.hid (And.intro i0 (And.intro i1 (And.intro i2 hB)))
    have HK := Lib.hid hK
    clear i0 i1 i2 hB hK
    simp only [encH, headV]
    gi_wp2
    have hBl := HH.out.2.2.2
    exact HK.out _ _ ((KeepsOthers.alloc _ _).from _) (KpZ.of_below ((Below.refl _ W).alloc (Nat.le_refl _) _)) ⟨⟨HH.out.1.alloc _, HH.out.2.1.alloc _, HH.out.2.2.1.alloc _⟩, hBl.alloc hBl.size _⟩ trivial
  case body =>
    intro l pre x a' W _ _ _ _ hlt
    exact absurd hlt (Nat.not_lt_zero _)
  case done =>
    rintro D ys W hD _ ⟨⟨i0, i1, i2⟩, hB⟩ hK
    have hH := HR.out.below hB
    have ca := hH.cell
    have k0 := i0.1
    have k2 := i2.1
    obtain ⟨k1, f1⟩ := id i1
    have hpg : ∀ x : Keeps (Below W.heap.size W), CallsIn Fence.wide 6 Tryz.prog 136 #[PV pa] x.to _ := fun x => CallsIn.keeps_below (callsIn_wide.2 (hH.below x.ok).pages_nil)
    have hx0 : ∀ x : Keeps (Below W.heap.size W), x.to.cell? ⟨w.heap.size, 0, none⟩ = some (PV ph) := fun x => (x.ok.cell (p := ⟨w.heap.size, 0, none⟩) (Cx.lt (show Cx W _ 0 _ from i0))).trans k0
    have hx2 : ∀ x : Keeps (Below W.heap.size W), x.to.cell? ⟨w.heap.size + 1 + 1, 0, none⟩ = some (.int .i64 0) := fun x => (x.ok.cell (p := ⟨w.heap.size + 1 + 1, 0, none⟩) (Cx.lt (show Cx W _ 0 _ from i2))).trans k2
    have hxa : ∀ x : Keeps (Below W.heap.size W), x.to.cell? ⟨ph, 0, none⟩ = some (PV pa) := fun x => (x.ok.cell (p := ⟨ph, 0, none⟩) hH.lt).trans ca
    have HH := Lib.hid (And.intro hpg (And.intro hB i1))
    clear hB i0 i1 i2 hH
    gi_wp2_with fail
    refine wpIn_region_keeps (Below W.heap.size W) (by kernel_rfl) (by kernel_rfl) (by kernel_rfl) ⟨rfl, rfl, rfl, Nat.le_refl _, fun _ _ => rfl⟩ fun ⟨x0⟩ => ?_
    repeat (first | gi_big_quiet_skip | (gi_big_quiet_want; gi_big_quiet_op; first | go_big_quiet_on | (apply Exists.intro; refine ⟨fun x => ?_, ?_⟩; (· with_reducible exact hpg x); go_big_quiet_on)))
    refine wpQuietIn_nil ?_
    rintro _ ⟨x, rfl⟩
    have j1 := HH.out.2.2.below x.ok (Cx.lt (show Cx W _ 0 _ from HH.out.2.2))
    obtain ⟨k1', f1'⟩ := id j1
    have hK' : x.to.heap[D]? = some (.deferred (some [])) := (x.ok.block D (Array.getElem?_eq_some_iff.1 hK).1).trans hK
    have HX := Lib.hid (And.intro j1 (And.intro hK' (HH.out.2.1.trans (x.ok.mono HH.out.2.1.size))))
    clear j1 hK'
    gi_wp2
    have hK2 := (KeepsOthers.setCell x.to ⟨w.heap.size + 1, 0, none⟩ (.int .i64 0)).same D _ HX.out.2.1 rfl
    refine ⟨by simp, .inl ⟨_, _, rfl, run_takeDeferred hK2, ?_⟩⟩
    have r1 := ((HX.out.1.set (.int .i64 0)).put (o' := .deferred none) hK2 rfl).1
    refine ⟨.int .i64 0, ?_, rfl, (HX.out.2.2.setCell (p := ⟨w.heap.size + 1, 0, none⟩) (by simp) _).trans (belowK_b (w := w) (Nat.le_refl _) _ D _ _ (by omega) hK2 rfl rfl)⟩
    simp [results, Tryz.f99, go_sem, r1]
  case stop =>
    rintro D cd pre W hD hpre hF
    exact hF.elim
theorem heap_new {w : World} {pa pm q : Nat} {Y : Nat → Prop} {blk : Nat → Nat} (hs : SlabOn w pa pm ⟨q, []⟩ Y blk) (ht : Tab64 w) (hyt : Y tabB) :
    Calls Tryz.prog 64 #[PV pa] w fun e w' => e = .returned (.tuple #[PV w.heap.size, .int .i64 0]) ∧ HeapOn w' w.heap.size pa pm ⟨q, []⟩ (And1 Y w.heap.size) ∧ Below w.heap.size w w' := by
  have hrd := slab_read hs 0 (by omega)
  have herr : Slab.err ⟨q, []⟩ 0 = 5 := rfl
  rw [herr] at hrd
  have hH : HeapOn (w.alloc (.cells #[PV pa] 160)) w.heap.size pa pm ⟨q, []⟩ (And1 Y w.heap.size) := by
    have hb := (Below.refl _ w).alloc (Nat.le_refl _) (.cells #[PV pa] 160)
    exact ⟨⟨blk, hs.own _⟩, heap_alloc_new w _, Or.inr rfl, ht.of_block (hb.block _ (hs.yl _ hyt)), Or.inl hyt⟩
  have hau := heap_audit_empty hH
  have HG := Lib.hid (And.intro hrd (And.intro hau hH))
  clear hrd hau hH herr hs ht hyt
  go_enter Tryz.func64, Tryz.ntmps64
  go_wp2_with fail
  refine HG.out.1.mono ?_
  rintro e w1 ⟨rfl, rfl⟩
  go_wp2_with fail
  refine HG.out.2.1.mono ?_
  rintro e w1 ⟨rfl, hb⟩
  have HB := Lib.hid hb
  clear hb
  go_wp2_with fail
  go_ret2
  exact ⟨rfl, HG.out.2.2.below HB.out, ((Below.refl _ w).alloc (Nat.le_refl _) _).trans (HB.out.mono (by simp))⟩
end Go.Proofs.YtepdkbmnkjfcpaaGreatDoor
namespace Go.Proofs.YtepdkbmnkjfcpaaGreatDoor
open Go.RowKit Go.BigFrame Go.Maps Go.WideMaps Lf
theorem SlabOn.empty_more {w : World} {pa pm q : Nat} {Y : Nat → Prop} {blk : Nat → Nat} (h : SlabOn w pa pm ⟨q, []⟩ Y blk) : SlabOn w pa pm ⟨q, []⟩ (fun k => k < w.heap.size ∧ k ≠ pa ∧ k ≠ pm) blk :=
  ⟨h.wf, h.hd, h.map, h.pg, h.inj, fun k => k.2.1 rfl, fun k => k.2.2 rfl, fun p hp => absurd hp (by simp [Slab.keys]), fun _ k => k.1⟩
theorem store_new {w : World} (ht : Tab64 w) (q n l : Nat) (hq : q ≤ 262144) (hn : 1 ≤ n ∧ n ≤ 65536) (hl : 1 ≤ l ∧ l < 4294967296) :
    Calls Tryz.prog 9 #[.int .i64 q, .int .i64 n, .int .u32 l] w fun e w' => ∃ ps, e = .returned (.tuple #[PV ps, .int .i64 0]) ∧ StOn w' ps ⟨⟨q, []⟩, ⟨n, l, []⟩⟩ (fun k => k < w.heap.size) ∧ Below w.heap.size w w' := by
  have htb : tabB < w.heap.size := ht.lt
  have h1 := slab_new q w (fun k => k < w.heap.size) (fun _ k => k) hq
  have HG := Lib.hid (And.intro h1 ht)
  clear h1 ht
  go_enter Tryz.func9, Tryz.ntmps9
  go_wp2_with fail
  refine HG.out.1.mono ?_
  rintro e w1 ⟨rfl, hs, hk⟩
  have hpl := hs.map.lt
  have hal := (Array.getElem?_eq_some_iff.1 hs.hd).1
  have H1 := Lib.hid (And.intro hs (And.intro hk.below (And.intro hpl hal)))
  clear hs hk hpl hal
  go_wp2_with fail
  refine (tab_new n l w1 hn hl).mono ?_
  rintro e w2 ⟨rfl, htab, hb2⟩
  have hs2 := (H1.out.1.below hb2).empty_more
  have hbl := H1.out.2.1.trans (hb2.mono H1.out.2.1.size)
  have hsz := H1.out.2.1.size
  have hsz2 := hb2.size
  have htl := htab.pt_lt
  have H2 := Lib.hid (And.intro hs2 (And.intro htab (And.intro hbl (And.intro hsz (And.intro hsz2 htl)))))
  clear hs2 htab hb2 hbl hsz hsz2 htl
  go_wp2_with fail
  have hT2 : Tab64 w2 := HG.out.2.below H2.out.2.2.1 (Nat.le_refl _)
  have hz : tabB < w2.heap.size ∧ tabB ≠ w.heap.size + 1 ∧ tabB ≠ w.heap.size := ⟨by have := H2.out.2.2.1.size; omega, by omega, by omega⟩
  refine (heap_new H2.out.1 hT2 hz).mono ?_
  rintro e w3 ⟨rfl, hH, hb3⟩
  have H3 := Lib.hid (And.intro hH hb3)
  clear hH hb3 hT2 hz
  go_wp2_with fail
  go_ret2
  have hb3 := H3.out.2
  obtain ⟨hs2, htab, hbl, hsz, hsz2, htl⟩ := H2.out
  obtain ⟨_, _, hpl, hal⟩ := H1.out
  have hs3 := hb3.size
  have hH := H3.out.1.own (.cells #[.int .i64 n, .int .u32 l, PV (w.heap.size + 1), PV w2.heap.size, PV w1.heap.size] 99 (0, 0))
  have hb4 : Below w3.heap.size w3 (w3.alloc (.cells #[.int .i64 n, .int .u32 l, PV (w.heap.size + 1), PV w2.heap.size, PV w1.heap.size] 99 (0, 0))) := (Below.refl _ w3).alloc (Nat.le_refl _) _
  have hw2 := hbl.size
  have hb34 := hbl.trans ((hb3.trans (hb4.mono hs3)).mono hw2)
  have hlt3 := H3.out.1.lt
  refine ⟨w3.heap.size, rfl, ⟨w.heap.size + 1, w.heap.size, w2.heap.size, w1.heap.size, .slice none 0 0, heap_alloc_new w3 _, ?_, ?_, ?_⟩, hb34⟩
  · refine hH.mono ?_ (Or.inr (Or.inr (Or.inl rfl))) (Or.inr (Or.inr (Or.inr (Or.inl rfl))))
    rintro k (hk | hk | hk | hk | hk | hk)
    · exact Or.inl (Or.inl ⟨by omega, by omega, by omega⟩)
    · exact Or.inr hk
    · exact Or.inl (Or.inr hk)
    · subst hk
      exact Or.inl (Or.inl ⟨by omega, by omega, by omega⟩)
    · subst hk
      exact Or.inl (Or.inl ⟨by omega, by omega, by omega⟩)
    · cases hk
  · exact htab.of_keep (by rw [hb4.block _ (by omega), hb3.block _ htl]) fun b hb => by cases hb
  · rintro k (hk | hk | hk | hk)
    · exact ⟨by omega, by simp [Value.ownBlock]⟩
    · subst hk
      exact ⟨by omega, by simp [Value.ownBlock]⟩
    · subst hk
      exact ⟨by omega, by simp [Value.ownBlock]⟩
    · subst hk
      exact ⟨by omega, by simp [Value.ownBlock]⟩
end Go.Proofs.YtepdkbmnkjfcpaaGreatDoor
