/- The handles' table: Open: the walk. The handles' table: Close: the walk. The heap's heads: the iterator's contract. -/
import Derived.Test.YtepdkbmnkjfcpaaGreatDoorVae
import Derived.Maps.AppendAt
import Derived.Lib.ItoaWalk
import Derived.Test.YtepdkbmnkjfcpaaGreatDoorVad
set_option maxRecDepth 100000
set_option maxHeartbeats 1600000
namespace Go.Proofs.YtepdkbmnkjfcpaaGreatDoor
open Go.RowKit Go.BigFrame Go.Maps Go.WideMaps Lf
theorem TabOn.form {w : World} {pt : Nat} {t : Tab} {v : Value} (h : TabOn w pt t v) :
    ∃ A cap, v = .slice A t.slots.length cap ∧ ∀ (k : Nat) (hk : k < t.slots.length), ∃ g, A = some ⟨g, 0, none⟩ ∧
      (w.cell? ⟨g, k * 3, none⟩ = some (.int .i64 t.slots[k].is) ∧ w.cell? ⟨g, k * 3 + 1, none⟩ = some (.int .u32 t.slots[k].gen) ∧ w.cell? ⟨g, k * 3 + 2, none⟩ = some (.int .i64 t.slots[k].addr)) ∧
      (w.frozen? ⟨g, k * 3, none⟩ = false ∧ w.frozen? ⟨g, k * 3 + 1, none⟩ = false ∧ w.frozen? ⟨g, k * 3 + 2, none⟩ = false) ∧ g ≠ pt := by
  rcases h.row.2 with ⟨h0, hx⟩ | ⟨g, cap, cur, hv, _, hb, h1, _, h3, h4⟩
  · exact ⟨none, 0, by rw [h0, hx], fun k hk => by omega⟩
  · refine ⟨_, cap, hv, fun k hk => ⟨g, rfl, ?_, ⟨frozen_of_block hb, frozen_of_block hb, frozen_of_block hb⟩, fun e => ?_⟩⟩
    · have key : ∀ j, j < 3 → w.cell? ⟨g, k * 3 + j, none⟩ = (slotCells t.slots[k])[j]? := fun j hj => by
        rw [cell_of_block hb, ← slotRow_get t.slots k j hk hj, ← h4, List.getElem?_take_of_lt (by omega), Array.getElem?_toList]
      exact ⟨key 0 (by decide), key 1 (by decide), key 2 (by decide)⟩
    · have := h.hd
      rw [← e, hb] at this
      injection this with this
      injection this with _ this
      exact absurd this (by decide)
theorem TabOn.set {w : World} {pt : Nat} {t : Tab} {g cap k : Nat} (h : TabOn w pt t (.slice (some ⟨g, 0, none⟩) t.slots.length cap)) (x : Slot) (hk : k < t.slots.length) (hx : x.is ≤ 2 ∧ x.gen < 4294967296 ∧ x.addr ≤ 4611686018427387903) (hg : g ≠ pt) :
    TabOn (putSlot w g k x) pt { t with slots := t.slots.set k x } (.slice (some ⟨g, 0, none⟩) t.slots.length cap) where
  wf := ⟨h.wf.most, h.wf.last, by simpa using h.wf.len, fun y hy => by
    rcases List.mem_or_eq_of_mem_set hy with hy | rfl
    · exact h.wf.slot y hy
    · exact hx⟩
  hd := by rw [putSlot_other (Ne.symm hg)]; exact h.hd
  row := by
    have := owns_putSlot h.row x hk
    simpa using this
theorem TabOn.opened {w : World} {pt : Nat} {t : Tab} {g cap k : Nat} (h : TabOn w pt t (.slice (some ⟨g, 0, none⟩) t.slots.length cap)) (q is gen a : Nat) (hk : k < t.slots.length) (hx : is ≤ 2 ∧ gen < 4294967296 ∧ a ≤ 4611686018427387903) (hg : g ≠ pt) (Y : Nat → Prop) (hy : ∀ b, Y b → b ≠ g) :
    TabOn (putSlot (w.drewN q) g k ⟨is, gen, a⟩) pt { t with slots := t.slots.set k ⟨is, gen, a⟩ } (.slice (some ⟨g, 0, none⟩) t.slots.length cap) ∧ Keep Y w (putSlot (w.drewN q) g k ⟨is, gen, a⟩) :=
  have hd : TabOn (w.drewN q) pt t (.slice (some ⟨g, 0, none⟩) t.slots.length cap) := ⟨h.wf, h.hd, h.row⟩
  ⟨hd.set ⟨is, gen, a⟩ hk hx hg, rfl, rfl, rfl, Nat.le_of_eq (putSlot_size (w.drewN q) g k ⟨is, gen, a⟩).symm, fun b hb => putSlot_other (w := w.drewN q) (hy b hb)⟩
theorem TabOn.named {w : World} {pt : Nat} {t : Tab} {v : Value} {k is gen a : Nat} (h : TabOn w pt { t with slots := t.slots.set k ⟨is, gen, a⟩ } v) (hk : k < t.slots.length) :
    Calls Tryz.prog 178 #[PV pt, .int .i64 k] w fun e w' => e = .returned (.int .u64 (nameOf gen k : Nat)) ∧ w = w' := by
  have := tab_name h k (by simpa using hk)
  simpa using this
theorem slotRow_zero (l : List Slot) : slotRow l ++ [.int .i64 0, .int .u32 0, .int .i64 0] = slotRow (l ++ [⟨0, 0, 0⟩]) := by rw [slotRow_append]; rfl
theorem TabOn.head_ne {w : World} {pt : Nat} {t : Tab} {v : Value} (h : TabOn w pt t v) : v.ownBlock ≠ some pt := by
  rcases h.row.2 with ⟨rfl, _⟩ | ⟨g, cap, cur, rfl, _, hb, _⟩
  · simp [Value.ownBlock]
  · simp only [Value.ownBlock, ne_eq, Option.some.injEq]
    intro e
    have := h.hd
    rw [← e, hb] at this
    injection this with this
    injection this with _ this
    exact absurd this (by decide)
theorem TabOn.pt_lt {w : World} {pt : Nat} {t : Tab} {v : Value} (h : TabOn w pt t v) : pt < w.heap.size := (Array.getElem?_eq_some_iff.1 h.hd).1
theorem TabOn.grew {w w1 : World} {pt : Nat} {t : Tab} {v v' : Value} (h : TabOn w pt t v) (o : Obj) (hm : t.slots.length < t.most) (hown : w1.ownsRow 0 250 3 v' (t.slots.length + 1) (slotRow t.slots ++ [.int .i64 0, .int .u32 0, .int .i64 0]))
    (hgrow : (w.alloc o).grownBy w1 v.ownBlock) (hat : v'.ownBlock = v.ownBlock ∨ v'.ownBlock = some (w.heap.size + 1)) (Y : Nat → Prop) (hy : ∀ b, Y b → b < w.heap.size ∧ b ≠ pt ∧ some b ≠ v.ownBlock) :
    w1.heap[pt]? = w.heap[pt]? ∧ TabOn (w1.setCell ⟨pt, 2, none⟩ v') pt { t with slots := t.slots ++ [⟨0, 0, 0⟩] } v' ∧ Keep Y w (w1.setCell ⟨pt, 2, none⟩ v') ∧ (∀ b, Y b → some b ≠ v'.ownBlock) := by
  have hlt := h.pt_lt
  have hpt : w1.heap[pt]? = w.heap[pt]? := by
    rw [hgrow.block pt (by simp; omega) (fun e => h.head_ne e.symm), heap_alloc_old w o hlt]
  have hne : v'.ownBlock ≠ some pt := by
    rcases hat with e | e
    · rw [e]; exact h.head_ne
    · rw [e]; simp; omega
  refine ⟨hpt, ⟨⟨h.wf.most, h.wf.last, by simp; omega, fun x hx => ?_⟩, ?_, ?_⟩, ⟨hgrow.os, hgrow.tape, hgrow.output, ?_, fun b hb => ?_⟩, fun b hb e => ?_⟩
  · rcases List.mem_append.1 hx with hx | hx
    · exact h.wf.slot x hx
    · obtain rfl := List.mem_singleton.1 hx; simp
  · exact heap_setCell (hpt.trans h.hd)
  · rw [slotRow_zero] at hown
    simp only [List.length_append, List.length_cons, List.length_nil, Nat.zero_add]
    refine ⟨hown.1, ?_⟩
    rcases hown.2 with hn | ⟨g, cap, cur, rfl, hb, hg, rest⟩
    · exact Or.inl hn
    · refine Or.inr ⟨g, cap, cur, rfl, hb, ?_, rest⟩
      rw [heap_setCell_ne (fun e => hne (by rw [← show g = pt from e]; rfl))]
      exact hg
  · have := hgrow.size
    rw [size_setCell]
    simp at this
    omega
  · obtain ⟨h1, h2, h3⟩ := hy b hb
    rw [heap_setCell_ne h2, hgrow.block b (by simp; omega) h3, heap_alloc_old w o h1]
  · obtain ⟨h1, h2, h3⟩ := hy b hb
    rcases hat with e' | e'
    · exact h3 (e.trans e')
    · rw [e'] at e; injection e with e; omega
theorem tab_open {w : World} {pt : Nat} {t : Tab} {v : Value} (h : TabOn w pt t v) (a : Nat) (ha : a ≤ 4611686018427387903) (Y : Nat → Prop) (hy : ∀ b, Y b → b < w.heap.size ∧ b ≠ pt ∧ some b ≠ v.ownBlock) :
    Calls Tryz.prog 127 #[PV pt, .int .i64 a] w fun e w' => e = .returned (.tuple #[.int .u64 ((t.open a).1.1 : Nat), .int .i64 ((t.open a).1.2 : Nat)]) ∧ (∃ v', TabOn w' pt (t.open a).2 v' ∧ ∀ b, Y b → some b ≠ v'.ownBlock) ∧ Keep Y w w' := by
  have hno := tab_none h
  have c0 : w.cell? ⟨pt, 0, none⟩ = some (.int .i64 t.most) := by rw [cell_of_block h.hd]; rfl
  have c2 : w.cell? ⟨pt, 2, none⟩ = some v := by rw [cell_of_block h.hd]; rfl
  have f2 : w.frozen? ⟨pt, 2, none⟩ = false := frozen_of_block h.hd
  obtain ⟨A, cap, hv, hcs⟩ := h.form
  have hlen := h.wf.len
  have hmost := h.wf.most
  obtain ⟨R, hR⟩ : ∃ R, t.open a = R := ⟨_, rfl⟩
  rw [hR]
  have hRe : R = if firstFree t.slots 0 = t.most then ((0, 10), t) else ((nameOf ((t.genAt (firstFree t.slots 0) + 1) % 4294967296) (firstFree t.slots 0), 0), { t with slots := (if firstFree t.slots 0 = t.slots.length then t.slots ++ [⟨0, 0, 0⟩] else t.slots).set (firstFree t.slots 0) ⟨1, (t.genAt (firstFree t.slots 0) + 1) % 4294967296, a⟩ }) := by rw [← hR]; rfl
  subst hv
  obtain ⟨L, hL⟩ : ∃ L, t.slots.length = L := ⟨_, rfl⟩
  obtain ⟨M, hM⟩ : ∃ M, t.most = M := ⟨_, rfl⟩
  rw [hL] at c2 hlen
  rw [hM] at c0 hlen hmost
  have HG := Lib.hid (And.intro hno (And.intro hRe (And.intro h (And.intro hcs (And.intro hL (And.intro hM hy))))))
  clear hno hRe hR h hcs hL hM hy
  go_enter Tryz.func127, Tryz.ntmps127
  go_wp2_with fail
  refine HG.out.1.mono ?_
  rintro e w1 ⟨rfl, rfl⟩
  go_wp2_with fail
  go_loop [6] (fun i => ∃ k : Nat, k ≤ L ∧ i = .int .i64 k ∧ Hid (∀ j (h : j < t.slots.length), j < k → t.slots[j].is ≠ 0)) (fun i => L - (intOf i).toNat)
  case atStart => exact ⟨0, by omega, rfl, fun j _ hj => absurd hj (by omega)⟩
  case round =>
    obtain ⟨k, hk, rfl, hin⟩ := hrel
    by_cases hlt : k < L
    · obtain ⟨g, hA, ⟨k0, k1, k2⟩, ⟨f0, f1, f3⟩, hgp⟩ := HG.out.2.2.2.1 k (by rw [HG.out.2.2.2.2.1]; exact hlt)
      subst hA
      have hkl : (k : Int) < L := by omega
      by_cases hz : (t.slots[k]'(by rw [HG.out.2.2.2.2.1]; exact hlt)).is = 0
      · rw [hz] at k0
        have hff : firstFree t.slots 0 = 0 + k := firstFree_eq t.slots 0 k (by rw [HG.out.2.2.2.2.1]; exact hk) hin.out (Or.inr ⟨by rw [HG.out.2.2.2.2.1]; exact hlt, hz⟩)
        rw [Nat.zero_add] at hff
        have hkm : ((k : Int) == M) = false := by simp; omega
        have hkL : ((k : Int) == L) = false := by simp; omega
        have hsl := HG.out.2.2.1.wf.slot _ (List.getElem_mem (show k < t.slots.length by rw [HG.out.2.2.2.2.1]; exact hlt))
        have hge : t.genAt k = (t.slots[k]'(by rw [HG.out.2.2.2.2.1]; exact hlt)).gen := by
          unfold Tab.genAt
          rw [List.getD_eq_getElem?_getD, List.getElem?_eq_getElem (by rw [HG.out.2.2.2.2.1]; exact hlt)]
          rfl
        obtain ⟨gn, hgn⟩ : ∃ gn, (t.slots[k]'(by rw [HG.out.2.2.2.2.1]; exact hlt)).gen = gn := ⟨_, rfl⟩
        rw [hgn] at k1 hge hsl
        have HF := Lib.hid (And.intro hff (And.intro hge hsl))
        clear hff hge hsl hgn hz
        go_wp2_with fail
        refine wp_region_quiet_tail (C := fun w' => ∃ q : Nat, w' = (w).drewN q) 17 (by kernel_rfl) (by kernel_rfl) ⟨1, rfl⟩ ?_
        simp only [List.take_succ_cons, List.take_zero, List.drop_succ_cons, List.drop_zero]
        repeat (first | go_big_quiet_skip | (go_big_quiet_want; go_big_quiet_op; first | go_big_quiet_on))
        refine wpQuiet_nil ?_
        rintro _ ⟨q, rfl⟩
        go_wp2_with fail
        have HP := Lib.hid (HG.out.2.2.1.opened q 1 ((gn + 1) % 4294967296) a (by rw [HG.out.2.2.2.2.1]; exact hlt) ⟨by omega, Nat.mod_lt _ (by decide), ha⟩ hgp Y (fun b hb e => (HG.out.2.2.2.2.2.2 b hb).2.2 (by rw [e]; rfl)))
        have HN := HP.out.1.named (by rw [HG.out.2.2.2.2.1]; exact hlt)
        rw [show putSlot (w.drewN q) g k ⟨1, (gn + 1) % 4294967296, a⟩ = (((w.drewN q).setCell ⟨g, k * 3, none⟩ (.int .i64 1)).setCell ⟨g, k * 3 + 1, none⟩ (.int .u32 (((gn : Int) + 1) % 4294967296))).setCell ⟨g, k * 3 + 2, none⟩ (.int .i64 a) from rfl] at HN
        refine HN.mono ?_
        rintro e w1 ⟨rfl, rfl⟩
        go_wp2_with fail
        go_ret2
        obtain rfl : R = ((nameOf ((gn + 1) % 4294967296) k, 0), { t with slots := t.slots.set k ⟨1, (gn + 1) % 4294967296, a⟩ }) := by
          rw [HG.out.2.1, HF.out.1, if_neg (by rw [HG.out.2.2.2.2.2.1]; omega), HF.out.2.1, if_neg (by rw [HG.out.2.2.2.2.1]; omega)]
        exact ⟨rfl, ⟨_, HP.out.1, fun b hb => (HG.out.2.2.2.2.2.2 b hb).2.2⟩, HP.out.2⟩
      · obtain ⟨z, hze⟩ : ∃ z, (t.slots[k]'(by rw [HG.out.2.2.2.2.1]; exact hlt)).is = z := ⟨_, rfl⟩
        have hj : ∀ j (h : j < t.slots.length), j < k + 1 → t.slots[j].is ≠ 0 := fun j hjl hjk => by
          rcases Nat.lt_succ_iff_lt_or_eq.1 hjk with hjk | rfl
          · exact hin.out j hjl hjk
          · exact hz
        have hj := Lib.hid hj
        rw [hze] at k0 hz
        have hzi : ((z : Int) == 0) = false := by simp; omega
        clear hze
        go_wp2_with fail
        go_round
        case rel => exact ⟨k + 1, by omega, by simp, hj⟩
        case measure => simp [intOf]; omega
    · obtain rfl : k = L := by omega
      have hff : firstFree t.slots 0 = 0 + k := firstFree_eq t.slots 0 k (by rw [HG.out.2.2.2.2.1]; exact Nat.le_refl _) hin.out (Or.inl HG.out.2.2.2.2.1.symm)
      rw [Nat.zero_add] at hff
      have HF := Lib.hid hff
      clear hff
      by_cases hM : k = M
      · subst hM
        go_wp2_with fail
        go_ret2
        obtain rfl : R = ((0, 10), t) := by rw [HG.out.2.1, HF.out, if_pos HG.out.2.2.2.2.2.1.symm]
        exact ⟨rfl, ⟨_, HG.out.2.2.1, fun b hb => (HG.out.2.2.2.2.2.2 b hb).2.2⟩, Keep.refl _ _⟩
      · have hkm : ((k : Int) == M) = false := by simp; omega
        have HR := Lib.hid HG.out.2.2.1.row
        rw [HG.out.2.2.2.2.1] at HR
        obtain ⟨i0, hi, hz0, hz1, hz2⟩ := info_parts slotInfo
        go_wp2_with (at_builtin; refine wpList_append_own_at _ rfl _ _ 154 rfl 0 250 i0 (.agg #[.int .i64 0, .int .u32 0, .int .i64 0]) 3 24 Tryz.underlying154 hi hz0 hz1 hz2 rfl (by decide) _ _ _ rfl (HR.out.alloc _) ⟨w.heap.size, 0, none⟩ 1 1 [.int .i64 0, .int .u32 0, .int .i64 0] rfl rfl ?c1 ?c2 ?c3 ?c4 ?c5 ?_)
        case c2 => simp [Value.oneCell']
        case c3 => unfold maxLen; omega
        case c4 => omega
        intro v' w1 hown1 hgrow1 _ hat
        have HQ := Lib.hid (HG.out.2.2.1.grew _ (by rw [HG.out.2.2.2.2.1, HG.out.2.2.2.2.2.1]; omega) (by rw [HG.out.2.2.2.2.1]; exact hown1) (by rw [HG.out.2.2.2.2.1]; exact hgrow1) (by rw [HG.out.2.2.2.2.1]; exact hat) Y HG.out.2.2.2.2.2.2)
        clear hown1 hgrow1 hat HR
        have d2 : w1.cell? ⟨pt, 2, none⟩ = some (.slice A k cap) := (World.cell?_of_block HQ.out.1).trans c2
        have g2 : w1.frozen? ⟨pt, 2, none⟩ = false := (World.frozen?_of_block HQ.out.1).trans f2
        obtain ⟨l2, hl2⟩ : ∃ l2, t.slots ++ [(⟨0, 0, 0⟩ : Slot)] = l2 := ⟨_, rfl⟩
        have hl1 : l2.length = k + 1 := by rw [← hl2]; simp [HG.out.2.2.2.2.1]
        have hxe : l2[k]'(by omega) = ⟨0, 0, 0⟩ := by
          subst hl2
          rw [List.getElem_append_right (by rw [HG.out.2.2.2.2.1]; exact Nat.le_refl _)]
          simp [HG.out.2.2.2.2.1]
        rw [hl2] at HQ
        obtain ⟨A', cap', hv', hcs'⟩ := HQ.out.2.1.form
        obtain ⟨g, hA, ⟨k0, k1, k2⟩, ⟨f0, f1, f3⟩, hgp⟩ := hcs' k (by show k < l2.length; omega)
        subst hv' hA
        clear hcs'
        simp only [hxe] at k0 k1 k2
        simp only [hl1] at k0 k1 k2 f0 f1 f3
        have c3 : (w1.setCell ⟨pt, 2, none⟩ (.slice (some ⟨g, 0, none⟩) l2.length cap')).cell? ⟨pt, 2, none⟩ = some (.slice (some ⟨g, 0, none⟩) (k + 1) cap') := by
          rw [cell_of_block HQ.out.2.1.hd, ← hl1]
          rfl
        rw [hl1] at c3
        have HL := Lib.hid (And.intro hl1 hl2)
        clear hl2 hxe
        simp only [hl1]
        clear hl1
        go_wp2_with fail
        go_name_world W HW
        rw [HL.out.1] at HQ
        rw [HW] at c3 k0 k1 k2 f0 f1 f3 HQ
        clear HW
        refine wp_region_quiet_tail (C := fun w' => ∃ q : Nat, w' = (W).drewN q) 17 (by kernel_rfl) (by kernel_rfl) ⟨1, rfl⟩ ?_
        simp only [List.take_succ_cons, List.take_zero, List.drop_succ_cons, List.drop_zero]
        repeat (first | go_big_quiet_skip | (go_big_quiet_want; go_big_quiet_op; first | go_big_quiet_on))
        refine wpQuiet_nil ?_
        rintro _ ⟨q, rfl⟩
        go_wp2_with fail
        have h2 := HQ.out.2.1
        rw [← HL.out.1] at h2
        have HP := Lib.hid (h2.opened q 1 1 a (by show k < l2.length; rw [HL.out.1]; omega) ⟨by omega, by omega, ha⟩ hgp Y (fun b hb e => HQ.out.2.2.2 b hb (by rw [e]; rfl)))
        have HN := HP.out.1.named (t := ⟨t.most, t.last, l2⟩) (by show k < l2.length; rw [HL.out.1]; omega)
        clear h2
        rw [show putSlot (W.drewN q) g k ⟨1, 1, a⟩ = (((W.drewN q).setCell ⟨g, k * 3, none⟩ (.int .i64 1)).setCell ⟨g, k * 3 + 1, none⟩ (.int .u32 1)).setCell ⟨g, k * 3 + 2, none⟩ (.int .i64 a) from rfl] at HN
        refine HN.mono ?_
        rintro e w1 ⟨rfl, rfl⟩
        go_wp2_with fail
        go_ret2
        obtain rfl : R = ((nameOf 1 k, 0), { t with slots := l2.set k ⟨1, 1, a⟩ }) := by
          rw [HG.out.2.1, HF.out, if_neg (by rw [HG.out.2.2.2.2.2.1]; omega), if_pos HG.out.2.2.2.2.1.symm, HL.out.2]
          have : t.genAt k = 0 := by
            unfold Tab.genAt
            rw [List.getD_eq_getElem?_getD, List.getElem?_eq_none (by rw [HG.out.2.2.2.2.1]; exact Nat.le_refl _)]
            rfl
          rw [this]
        exact ⟨rfl, ⟨_, HP.out.1, fun b hb => by have := HQ.out.2.2.2 b hb; rwa [← HL.out.1] at this⟩, HQ.out.2.2.1.trans HP.out.2⟩
end Go.Proofs.YtepdkbmnkjfcpaaGreatDoor
namespace Go.Proofs.YtepdkbmnkjfcpaaGreatDoor
open Go.RowKit Go.BigFrame Go.Maps Go.WideMaps Lf
theorem slotRow_setIs : ∀ (l : List Slot) (k i : Nat) (h : k < l.length), (slotRow l).set (k * 3) (.int .i64 i) = slotRow (l.set k { l[k] with is := i })
  | [], k, _, h => by simp at h
  | y :: r, 0, i, _ => rfl
  | y :: r, k + 1, i, h => by
    have ih := slotRow_setIs r k i (by simpa using h)
    have e : slotRow (y :: r) = (.int .i64 y.is) :: (.int .u32 y.gen) :: (.int .i64 y.addr) :: slotRow r := rfl
    have e2 : slotRow ((y :: r).set (k + 1) { (y :: r)[k + 1] with is := i }) = (.int .i64 y.is) :: (.int .u32 y.gen) :: (.int .i64 y.addr) :: slotRow (r.set k { (y :: r)[k + 1] with is := i }) := rfl
    rw [e, e2, show (k + 1) * 3 = k * 3 + 1 + 1 + 1 by omega]
    simp only [List.set_cons_succ, List.getElem_cons_succ] at ih ⊢
    rw [ih]
theorem TabOn.mark {w : World} {pt : Nat} {t : Tab} {g cap k : Nat} (h : TabOn w pt t (.slice (some ⟨g, 0, none⟩) t.slots.length cap)) (i : Nat) (hk : k < t.slots.length) (hi : i ≤ 2) (hg : g ≠ pt) :
    TabOn (w.setCell ⟨g, k * 3, none⟩ (.int .i64 i)) pt { t with slots := t.slots.set k { t.slots[k] with is := i } } (.slice (some ⟨g, 0, none⟩) t.slots.length cap) where
  wf := ⟨h.wf.most, h.wf.last, by simpa using h.wf.len, fun y hy => by
    rcases List.mem_or_eq_of_mem_set hy with hy | rfl
    · exact h.wf.slot y hy
    · have := h.wf.slot _ (List.getElem_mem hk)
      exact ⟨hi, this.2⟩⟩
  hd := by rw [heap_setCell_ne (Ne.symm hg)]; exact h.hd
  row := by
    refine ⟨by rw [slotRow_length], ?_⟩
    rcases h.row.2 with ⟨h0, _⟩ | ⟨g', cap', cur, hv, hg', hb, h1, h2, h3, h4⟩
    · cases h0
    · injection hv with hv1 hv2 hv3
      injection hv1 with hv1
      injection hv1 with hv1
      subst hv1 hv3
      refine Or.inr ⟨g, cap, cur.setIfInBounds (k * 3) (.int .i64 i), ?_, hg', heap_setCell hb, by simpa using h1, h2, by simpa using h3, ?_⟩
      · simp
      · have hl := slotRow_length t.slots
        simp only [Array.toList_setIfInBounds, List.length_set]
        rw [show cur.toList = slotRow t.slots ++ cur.toList.drop (t.slots.length * 3) by rw [← h4, List.take_append_drop], List.set_append_left _ _ (by omega), List.take_left' (by simp; omega), slotRow_setIs t.slots k i hk]
theorem Keep.mark {Y : Nat → Prop} {w : World} {g k : Nat} {v : Value} (hy : ∀ b, Y b → b ≠ g) : Keep Y w (w.setCell ⟨g, k, none⟩ v) :=
  ⟨rfl, rfl, rfl, Nat.le_of_eq (size_setCell w _ _).symm, fun b hb => heap_setCell_ne (hy b hb)⟩
theorem Tab.close_some {t : Tab} {h k : Nat} (hk : t.of h = some k) (hlt : k < t.slots.length) : t.close h = (0, { t with slots := t.slots.set k { t.slots[k] with is := if t.slots[k].gen = t.last then 2 else 0 } }) := by
  unfold Tab.close
  rw [hk]
  simp only [List.getD_eq_getElem?_getD, List.getElem?_eq_getElem hlt, Option.getD_some]
theorem tab_close {w : World} {pt : Nat} {t : Tab} {v : Value} (h : TabOn w pt t v) (hh : Nat) (hl : hh < 18446744073709551616) (Y : Nat → Prop) (hy : ∀ b, Y b → some b ≠ v.ownBlock) :
    Calls Tryz.prog 123 #[PV pt, .int .u64 hh] w fun e w' => e = .returned (.int .i64 ((t.close hh).1 : Nat)) ∧ TabOn w' pt (t.close hh).2 v ∧ Keep Y w w' := by
  have ho := tab_of h hh hl
  cases hk : t.of hh with
  | none =>
    have he : t.close hh = (7, t) := by unfold Tab.close; rw [hk]
    rw [hk] at ho
    rw [he]
    have HO := Lib.hid (And.intro ho h)
    clear ho he hk h hy
    go_enter Tryz.func123, Tryz.ntmps123
    go_wp2_with fail
    refine HO.out.1.mono ?_
    rintro e w1 ⟨rfl, rfl⟩
    go_wp2_with fail
    go_ret
    exact ⟨rfl, HO.out.2, Keep.refl _ _⟩
  | some k =>
    obtain ⟨hlt, _⟩ := Tab.of_lt hk
    have he := Tab.close_some hk hlt
    rw [hk] at ho
    rw [he]
    obtain ⟨A, cap, hv, hcs⟩ := h.form
    obtain ⟨g, hA, ⟨k0, k1, k2⟩, ⟨f0, f1, f3⟩, hgp⟩ := hcs k hlt
    subst hv hA
    simp only [slotP] at ho
    have c1 : w.cell? ⟨pt, 1, none⟩ = some (.int .u32 t.last) := by rw [cell_of_block h.hd]; rfl
    have hm := fun i hi => h.mark (k := k) i hlt hi hgp
    have hgl := (h.wf.slot _ (List.getElem_mem hlt)).2.1
    have hll := h.wf.last
    obtain ⟨x, hx⟩ : ∃ x, t.slots[k] = x := ⟨_, rfl⟩
    rw [hx] at k0 k1 k2 hgl hm ⊢
    obtain ⟨xi, xg, xa⟩ := x
    simp only at k0 k1 k2 hgl hm ⊢
    obtain ⟨la, hla⟩ : ∃ la, t.last = la := ⟨_, rfl⟩
    rw [hla] at c1 hll ⊢
    have hne : ∀ b, Y b → b ≠ g := fun b hb e => hy b hb (by rw [e]; rfl)
    have HO := Lib.hid (And.intro ho (And.intro hm (And.intro hlt (And.intro hla hne))))
    clear ho he hk hcs h hy hm hx hla
    by_cases hgl2 : xg = la
    · rw [if_pos hgl2]
      have hge : ((xg : Int) == la) = true := by simp; omega
      go_enter Tryz.func123, Tryz.ntmps123
      go_wp2_with fail
      refine HO.out.1.mono ?_
      rintro e w1 ⟨rfl, rfl⟩
      go_wp2_with fail
      go_quiet (fail)
      go_wp2_with fail
      go_ret
      have hm0 : TabOn ((w.setCell ⟨g, k * 3, none⟩ (.int .i64 0)).drewN nq) pt { t with slots := t.slots.set k ⟨0, xg, xa⟩ } (.slice (some ⟨g, 0, none⟩) t.slots.length cap) := by
        have := HO.out.2.1 0 (by omega)
        exact ⟨this.wf, this.hd, this.row⟩
      have hm2 := TabOn.mark (t := { t with slots := t.slots.set k ⟨0, xg, xa⟩ }) (g := g) (cap := cap) (k := k) (by simpa using hm0) 2 (by simpa using HO.out.2.2.1) (by omega) hgp
      refine ⟨rfl, ?_, ((Keep.mark HO.out.2.2.2.2).trans (Keep.drewN _ _ nq)).trans (Keep.mark HO.out.2.2.2.2)⟩
      rw [← HO.out.2.2.2.1]
      simpa using hm2
    · rw [if_neg hgl2]
      have hge : ((xg : Int) == la) = false := by simp; omega
      go_enter Tryz.func123, Tryz.ntmps123
      go_wp2_with fail
      refine HO.out.1.mono ?_
      rintro e w1 ⟨rfl, rfl⟩
      go_wp2_with fail
      go_quiet (fail)
      go_wp2_with fail
      go_ret
      have hm0 : TabOn ((w.setCell ⟨g, k * 3, none⟩ (.int .i64 0)).drewN nq) pt { t with slots := t.slots.set k ⟨0, xg, xa⟩ } (.slice (some ⟨g, 0, none⟩) t.slots.length cap) := by
        have := HO.out.2.1 0 (by omega)
        exact ⟨this.wf, this.hd, this.row⟩
      rw [HO.out.2.2.2.1] at hm0
      exact ⟨rfl, hm0, (Keep.mark HO.out.2.2.2.2).trans (Keep.drewN _ _ nq)⟩
end Go.Proofs.YtepdkbmnkjfcpaaGreatDoor
namespace Go.Proofs.YtepdkbmnkjfcpaaGreatDoor
open Go.RowKit Go.BigFrame Go.Maps Go.WideMaps Lf
open Go.Shelf
attribute [local go_sem] Oper.semAt_some
structure KpZ (n : Nat) (Z : Nat → Prop) (W W' : World) : Prop where
  size : W.heap.size ≤ W'.heap.size
  block : ∀ (k : Nat) (o : Obj), ¬ Z k → W.heap[k]? = some o → (k < n ∨ o.isCells = true) → W'.heap[k]? = some o
theorem grown_of_below {A B : World} (h : Below A.heap.size A B) : A.grownBy B none := ⟨h.os, h.tape, h.output, h.size, fun k hk _ => h.block k hk⟩
theorem KpZ.refl (n : Nat) (Z : Nat → Prop) (W : World) : KpZ n Z W W := ⟨Nat.le_refl _, fun _ _ _ h _ => h⟩
theorem KpZ.trans {n : Nat} {Z : Nat → Prop} {A B C : World} (h : KpZ n Z A B) (k : KpZ n Z B C) : KpZ n Z A C :=
  ⟨Nat.le_trans h.size k.size, fun i o hz ho hc => k.block i o hz (h.block i o hz ho hc) hc⟩
theorem KpZ.of_below {n : Nat} {Z : Nat → Prop} {A B : World} (h : Below A.heap.size A B) : KpZ n Z A B :=
  ⟨h.size, fun i _ _ ho _ => (h.block i (Array.getElem?_eq_some_iff.1 ho).1).trans ho⟩
theorem KpZ.setCell {n : Nat} {Z : Nat → Prop} {W : World} {b i : Nat} (hz : Z b) (v : Value) : KpZ n Z W (W.setCell ⟨b, i, none⟩ v) :=
  ⟨by rw [size_setCell]; exact Nat.le_refl _, fun k _ hk ho _ => (heap_setCell_ne (fun e => hk (by rw [e]; exact hz))).trans ho⟩
theorem KpZ.put {n : Nat} {Z : Nat → Prop} (W : World) (l : Nat) (o o' : Obj) (hl : n ≤ l) (ho : W.heap[l]? = some o) (hc : o.isCells = false) (_ : o.isWalk = false) : KpZ n Z W (W.putObj l o') :=
  ⟨by simp, fun k o1 _ h1 h2 => by
    by_cases e : k = l
    · subst e
      rw [ho] at h1
      injection h1 with h1
      subst h1
      rcases h2 with h2 | h2
      · omega
      · rw [hc] at h2; cases h2
    · exact (World.putObj_heap_other e).trans h1⟩
theorem KpZ.cell {n : Nat} {Z : Nat → Prop} {W W' : World} (h : KpZ n Z W W') {a : Addr} {v : Value} (hz : ¬ Z a.block) (hc : W.cell? a = some v) : W'.cell? a = some v := by
  have : ∃ cs t fr, W.heap[a.block]? = some (.cells cs t fr) := by
    unfold World.cell? at hc
    split at hc
    · rename_i c t fr heq; exact ⟨_, _, _, heq⟩
    · cases hc
  obtain ⟨cs, t, fr, hb⟩ := this
  have hb' := h.block a.block _ hz hb (Or.inr rfl)
  rw [← hc]
  exact World.cell?_of_block (hb'.trans hb.symm)
theorem HeapOn.kp {w w' : World} {ph pa pm n : Nat} {s : Slab} {Y Z : Nat → Prop} (h : HeapOn w ph pa pm s Y) (hk : KpZ n Z w w') (hn : pm < n) (hz : ∀ k, Z k → Y k ∧ k ≠ ph ∧ k ≠ tabB) : HeapOn w' ph pa pm s Y := by
  obtain ⟨blk, hs⟩ := h.slab
  have c1 : ∀ {k : Nat} {cs : Array Value} {t : TypeId} {fr : Nat × Nat}, ¬ Z k → w.heap[k]? = some (.cells cs t fr) → w'.heap[k]? = some (.cells cs t fr) := fun hz hb => hk.block _ _ hz hb (Or.inr rfl)
  refine ⟨⟨blk, hs.wf, c1 (fun hh => hs.ya (hz _ hh).1) hs.hd, ?_, fun x hx => c1 (fun hh => hs.yp _ (keys_mem.2 ⟨_, hx⟩) (hz _ hh).1) (hs.pg x hx), hs.inj, hs.ya, hs.ym, hs.yp, fun k hkk => Nat.lt_of_lt_of_le (hs.yl k hkk) hk.size⟩, c1 (fun hh => (hz _ hh).2.1 rfl) h.hp, h.yh, ?_, h.yt⟩
  · obtain ⟨es, ck, hm⟩ := hs.map_block
    exact ownsMap_of_block hs.map ((hk.block pm _ (fun hh => hs.ym (hz _ hh).1) hm (Or.inl hn)).trans hm.symm)
  · intro j hj
    exact hk.cell (a := ⟨tabB, j, none⟩) (fun hh => (hz _ hh).2.2 rfl) (h.tab j hj)
theorem HeapOn.pm_lt {w : World} {ph pa pm : Nat} {s : Slab} {Y : Nat → Prop} (h : HeapOn w ph pa pm s Y) : pm < w.heap.size := by
  obtain ⟨blk, hs⟩ := h.slab
  exact hs.map.lt
def hTo (s : Slab) : Nat → List (Nat × Head) × Nat
  | 0 => ([], 0)
  | k + 1 =>
    if s.keys.getD k 0 < (hTo s k).2 then hTo s k
    else ((hTo s k).1 ++ [(s.keys.getD k 0, getH s (s.keys.getD k 0))], if (getH s (s.keys.getD k 0)).kind = 2 then s.keys.getD k 0 + (getH s (s.keys.getD k 0)).n else (hTo s k).2)
theorem headsFrom_snoc (s : Slab) (p : Nat) : ∀ (l : List Nat) (nx : Nat), headsFrom s nx (l ++ [p]) = headsFrom s nx l ++ headsFrom s (l.foldl (fun nx q => if q < nx then nx else if (getH s q).kind = 2 then q + (getH s q).n else nx) nx) [p]
  | [], nx => by show headsFrom s nx [p] = [] ++ headsFrom s nx [p]; rw [List.nil_append]
  | q :: l, nx => by
    simp only [List.cons_append, headsFrom, List.foldl_cons]
    by_cases h : q < nx
    · simp only [h, if_true]
      exact headsFrom_snoc s p l nx
    · simp only [h, if_false, List.cons_append]
      rw [headsFrom_snoc s p l]
      rfl
theorem hTo_eq (s : Slab) : ∀ k, k ≤ s.keys.length → hTo s k = (headsFrom s 0 (s.keys.take k), (s.keys.take k).foldl (fun nx q => if q < nx then nx else if (getH s q).kind = 2 then q + (getH s q).n else nx) 0)
  | 0, _ => by simp [hTo, headsFrom]
  | k + 1, h => by
    have ih := hTo_eq s k (by omega)
    have hk : s.keys.getD k 0 = s.keys[k] := by rw [List.getD_eq_getElem?_getD, List.getElem?_eq_getElem (by omega)]; rfl
    rw [List.take_succ_eq_append_getElem (by omega), headsFrom_snoc, List.foldl_append]
    unfold hTo
    rw [ih, hk]
    simp only [List.foldl_cons, List.foldl_nil, headsFrom]
    split
    · simp
    · rfl
theorem hTo_all (s : Slab) : (hTo s s.keys.length).1 = heads s := by
  rw [hTo_eq s _ (Nat.le_refl _), List.take_length]
  rfl
theorem hTo_length (s : Slab) : ∀ k, (hTo s k).1.length ≤ k
  | 0 => Nat.le_refl _
  | k + 1 => by
    have := hTo_length s k
    unfold hTo
    split
    · omega
    · simp; omega
theorem hTo_prefix (s : Slab) (k : Nat) : ∀ d, (hTo s k).1 <+: (hTo s (k + d)).1
  | 0 => List.prefix_refl _
  | d + 1 => by
    refine (hTo_prefix s k d).trans ?_
    show (hTo s (k + d)).1 <+: (hTo s (k + d + 1)).1
    conv => rhs; unfold hTo
    split
    · exact List.prefix_refl _
    · exact List.prefix_append _ _
theorem getH_lt {w : World} {ph pa pm : Nat} {s : Slab} {Y : Nat → Prop} (h : HeapOn w ph pa pm s Y) (p : Nat) : (getH s p).kind < 256 ∧ (getH s p).n < 72057594037927936 ∧ (getH s p).w < 18446744073709551616 := by
  have h1 := h.rd_lt (p * 64)
  have h2 := h.rd_lt (p * 64 + 1)
  exact ⟨Nat.mod_lt _ (by decide), by show s.rd (p * 64) / 256 < _; omega, h2⟩
theorem hTo_next {w : World} {ph pa pm : Nat} {s : Slab} {Y : Nat → Prop} (h : HeapOn w ph pa pm s Y) : ∀ k, k ≤ s.keys.length → (hTo s k).2 ≤ 72057594039000000
  | 0, _ => Nat.zero_le _
  | k + 1, hk => by
    have ih := hTo_next h k (by omega)
    have h1 := getH_lt h (s.keys.getD k 0)
    have h2 : s.keys.getD k 0 ≤ 1048575 := by
      rw [List.getD_eq_getElem?_getD, List.getElem?_eq_getElem (by omega)]
      exact h.wf.top _ (List.getElem_mem _)
    unfold hTo
    split
    · exact ih
    · simp only
      split
      · omega
      · exact ih
abbrev HeadX := { x : Nat × Head // x.1 ≤ 1048575 ∧ x.2.kind < 256 ∧ x.2.n < 72057594037927936 ∧ x.2.w < 18446744073709551616 }
abbrev encH (x : HeadX) : Array Value := #[.int .i64 x.1.1, headV x.1.2]
abbrev valsH (l : List HeadX) : List (Nat × Head) := l.map (·.1)
theorem HeapOn.pages {w : World} {ph pa pm : Nat} {s : Slab} {Y : Nat → Prop} (h : HeapOn w ph pa pm s Y) :
    Calls Tryz.prog 136 #[PV pa] w fun e w' => ∃ v, e = .returned v ∧ IntRow w' w.heap.size v s.keys ∧ Below w.heap.size w w' := by
  obtain ⟨blk, hs⟩ := h.slab
  exact slab_pages hs
theorem heads_stops {w : World} {ph pa pm : Nat} {s : Slab} {Y Z : Nat → Prop} (h : HeapOn w ph pa pm s Y) (hz : ∀ k, Z k → Y k ∧ k ≠ ph ∧ k ≠ tabB) (B : Nat) (hB : w.cell? ⟨B, 0, none⟩ = some (PV ph)) (hzB : ¬ Z B) :
    SeqStopsK Fence.wide 6 Tryz.prog 180 #[PV B] encH (KpZ w.heap.size Z) (fun xs => valsH xs = heads s) (fun pre => valsH pre <+: heads s) s.keys.length w := fun l J Jx W hW hJ hJx hY h0 => by
  have hH := h.below hW
  have hBl : B < w.heap.size := by
    unfold World.cell? at hB
    split at hB
    · rename_i heq; exact (Array.getElem?_eq_some_iff.1 heq).1
    · cases hB
  have hB1 : W.cell? ⟨B, 0, none⟩ = some (PV ph) := (hW.cell (p := ⟨B, 0, none⟩) hBl).trans hB
  have hpg : CallsIn Fence.wide 5 Tryz.prog 136 #[PV pa] W _ := callsIn_wide.2 hH.pages
  have c1 := hH.cell
  have hpm := h.pm_lt
  have HY := Lib.hid hY
  have hfP : Fence.wide.fn 136 := trivial
  have hfG : Fence.wide.fn 181 := trivial
  have HJ := Lib.hid (And.intro hJ hJx)
  have H0 := Lib.hid (And.intro hH (And.intro h0 (And.intro hz (And.intro hzB hB1))))
  clear hY hJ hJx hH h0 hz hzB h hB hW hBl
  refine callsIn_of_wp Tryz.func180 rfl trivial ?_ rfl
  simp only [Tryz.ntmps180, List.size_toArray, List.length_cons, List.length_nil, Nat.reduceAdd, Nat.reduceSub, Array.replicate_succ, Array.replicate_zero, List.push_toArray, List.append_toArray, List.nil_append, List.cons_append]
  gi_wp2_with (gi_at_call 136; refine hpg.mono ?_; rintro e w1 ⟨v, rfl, ⟨A, c, rfl, hrow⟩, hb1⟩)
  have HR := Lib.hid (And.intro hrow (And.intro hb1 (H0.out.1.below hb1)))
  clear hrow hb1 c1
  gi_loopw [3, 5, 13] (fun nx _ i wr => ∃ k : Nat, k ≤ s.keys.length ∧ i = .int .i64 k ∧ nx = .int .i64 (hTo s k).2 ∧ Hid (KpZ w.heap.size Z w1 wr ∧ ∃ pX, valsH pX = (hTo s k).1 ∧ J pX wr)) (fun _ _ i _ => s.keys.length - (intOf i).toNat)
  case atStart => exact ⟨0, by omega, rfl, rfl, KpZ.refl _ _ _, [], rfl, HJ.out.1 _ _ _ none H0.out.2.1 (grown_of_below HR.out.2.1) (fun r e => by cases e)⟩
  case round =>
    obtain ⟨k, hk, rfl, rfl, hin⟩ := hrel
    have hHr := HR.out.2.2.kp hin.out.1 hpm H0.out.2.2.1
    have hk4 : k ≤ 4096 := by
      have h1 := hHr.wf.room
      have h2 := hHr.wf.quota
      rw [keys_length] at hk
      omega
    by_cases hlt : k < s.keys.length
    · obtain ⟨b, o, rfl, hbW, hbl, hcr⟩ := HR.out.1 k hlt
      have hzb : ¬ Z b := fun hh => by
        have h1 := H0.out.1.yl _ (H0.out.2.2.1 _ hh).1
        omega
      have hcr := hin.out.1.cell (a := ⟨b, o + k, none⟩) hzb hcr
      have hcB := hin.out.1.cell (a := ⟨B, 0, none⟩) H0.out.2.2.2.1 ((HR.out.2.1.cell (p := ⟨B, 0, none⟩) (by
        have := H0.out.2.2.2.2
        unfold World.cell? at this
        split at this
        · rename_i heq; exact (Array.getElem?_eq_some_iff.1 heq).1
        · cases this)).trans H0.out.2.2.2.2)
      have hkd : s.keys.getD k 0 = s.keys[k] := by rw [List.getD_eq_getElem?_getD, List.getElem?_eq_getElem hlt]; rfl
      have hpt : s.keys[k] ≤ 1048575 := hHr.wf.top _ (List.getElem_mem _)
      have hnx := hTo_next hHr k (by omega)
      have hstep : hTo s (k + 1) = if s.keys[k] < (hTo s k).2 then hTo s k
          else ((hTo s k).1 ++ [(s.keys[k], getH s s.keys[k])], if (getH s s.keys[k]).kind = 2 then s.keys[k] + (getH s s.keys[k]).n else (hTo s k).2) := by
        conv => lhs; unfold hTo
        rw [hkd]
      have hlen := hTo_length s k
      have hkl : (k : Int) < s.keys.length := by omega
      have HK1 : Hid (k + 1 ≤ s.keys.length) := Lib.hid hlt
      obtain ⟨T, hT⟩ : ∃ T, hTo s k = T := ⟨_, rfl⟩
      obtain ⟨T', hT'⟩ : ∃ T', hTo s (k + 1) = T' := ⟨_, rfl⟩
      rw [hT] at hin hnx hstep hlen ⊢
      rw [hT'] at hstep
      have hgl := getH_lt hHr s.keys[k]
      have hget : CallsIn Fence.wide 5 Tryz.prog 181 #[PV ph, .int .i64 (s.keys[k] : Nat)] wr _ := callsIn_wide.2 (heap_get hHr s.keys[k] (by omega))
      generalize getH s s.keys[k] = x at *
      generalize s.keys[k] = p at *
      obtain ⟨pre, nx⟩ := T
      simp only at hin hnx hstep hlen ⊢
      have HS := Lib.hid (And.intro hT' (And.intro hstep hHr))
      clear hT hT' hstep hHr hkd
      by_cases hsk : p < nx
      · have hTe : T' = (pre, nx) := by rw [HS.out.2.1, if_pos hsk]
        gi_wp2_with fail
        go_roundw
        case rel => exact ⟨k + 1, HK1.out, by go_num, by rw [HS.out.1, hTe], by rw [HS.out.1, hTe]; exact hin⟩
        case measure => have := HK1.out; simp [intOf]; omega
      · gi_wp2_with fail
        refine hget.mono ?_
        rintro e w2 ⟨rfl, hb2⟩
        obtain ⟨w3, hw3⟩ : ∃ w3, w2.alloc (.cells #[.int .i64 x.kind, .int .i64 x.n, .int .u64 x.w] 204) = w3 := ⟨_, rfl⟩
        have hb3 : Below wr.heap.size wr w3 := by rw [← hw3]; exact hb2.alloc hb2.size _
        obtain ⟨pX, hpX, hJX⟩ := hin.out.2
        have hJ3 := HJ.out.1 _ _ _ none hJX (grown_of_below hb3) (fun r e => by cases e)
        have hpXl : pX.length = pre.length := by rw [← hpX]; exact (List.length_map _).symm
        obtain ⟨xX, hxX⟩ : ∃ xX : HeadX, xX.1 = (p, x) := ⟨⟨(p, x), hpt, hgl⟩, rfl⟩
        obtain ⟨fn, tmps, assign, body, hy, hRd⟩ := HY.out pX xX w3 hJ3 (by have := HK1.out; omega)
        have hpX2 : valsH (pX ++ [xX]) = pre ++ [(p, x)] := by show (pX ++ [xX]).map (·.1) = _; rw [List.map_append, show pX.map (·.1) = pre from hpX]; simp [hxX]
        have HPX := Lib.hid hpX2
        clear hpX2 hpX hpXl hJX
        dsimp only [encH] at hy
        rw [hxX] at hy
        obtain ⟨kd, xn, xw⟩ := x
        dsimp only [headV] at hy
        simp only at hgl hw3
        clear hxX
        by_cases hk2 : kd = 2
        · subst hk2
          have hTe : T' = (pre ++ [(p, ⟨2, xn, xw⟩)], p + xn) := by rw [HS.out.2.1, if_neg hsk, if_pos rfl]
          rw [show ((2 : Nat) : Int) = 2 from rfl] at hw3 hy
          rw [← hw3] at hy hRd
          have H3 := Lib.hid hb3
          rw [← hw3] at H3
          clear hb3 hb2 hJ3 hw3
          simp only [headV]
          gi_wp2_with fail
          refine hRd.mono ?_
          rintro e w4 (⟨rfl, hJ4, hk4'⟩ | ⟨rfl, hJx4⟩)
          · have H4 := Lib.hid (And.intro (hin.out.1.trans ((KpZ.of_below H3.out).trans hk4')) hJ4)
            clear hJ4 hk4' hy hRd
            gi_wp2_with fail
            go_roundw
            case rel => exact ⟨k + 1, HK1.out, by go_num, by rw [HS.out.1, hTe]; go_num, by rw [HS.out.1, hTe]; exact ⟨H4.out.1, _, HPX.out, H4.out.2⟩⟩
            case measure => have := HK1.out; simp [intOf]; omega
          · have H4 := Lib.hid hJx4
            have hpre : pre ++ [(p, ⟨2, xn, xw⟩)] <+: heads s := by
              rw [← hTo_all, show pre ++ [(p, ⟨2, xn, xw⟩)] = (hTo s (k + 1)).1 by rw [HS.out.1, hTe]]
              obtain ⟨d, hd⟩ : ∃ d, s.keys.length = k + 1 + d := ⟨s.keys.length - (k + 1), by have := HK1.out; omega⟩
              rw [hd]
              exact hTo_prefix s (k + 1) d
            clear hJx4 hy hRd
            gi_wp2_with fail
            refine bodyPost_ret (results_none rfl _ _ _) rfl ?_
            exact ⟨⟨_, rfl⟩, .inr ⟨_, by rw [HPX.out]; exact hpre, H4.out⟩⟩
        · have hkb : ((kd : Int) == 2) = false := by simp; omega
          have hTe : T' = (pre ++ [(p, ⟨kd, xn, xw⟩)], nx) := by rw [HS.out.2.1, if_neg hsk, if_neg hk2]
          have HK2 := Lib.hid hk2
          clear hk2
          rw [← hw3] at hy hRd
          have H3 := Lib.hid hb3
          rw [← hw3] at H3
          clear hb3 hb2 hJ3 hw3
          simp only [headV]
          gi_wp2_with fail
          refine hRd.mono ?_
          rintro e w4 (⟨rfl, hJ4, hk4'⟩ | ⟨rfl, hJx4⟩)
          · have H4 := Lib.hid (And.intro (hin.out.1.trans ((KpZ.of_below H3.out).trans hk4')) hJ4)
            clear hJ4 hk4' hy hRd
            gi_wp2_with fail
            go_roundw
            case rel => exact ⟨k + 1, HK1.out, by go_num, by rw [HS.out.1, hTe], by rw [HS.out.1, hTe]; exact ⟨H4.out.1, _, HPX.out, H4.out.2⟩⟩
            case measure => have := HK1.out; simp [intOf]; omega
          · have H4 := Lib.hid hJx4
            have hpre : pre ++ [(p, ⟨kd, xn, xw⟩)] <+: heads s := by
              rw [← hTo_all, show pre ++ [(p, ⟨kd, xn, xw⟩)] = (hTo s (k + 1)).1 by rw [HS.out.1, hTe]]
              obtain ⟨d, hd⟩ : ∃ d, s.keys.length = k + 1 + d := ⟨s.keys.length - (k + 1), by have := HK1.out; omega⟩
              rw [hd]
              exact hTo_prefix s (k + 1) d
            clear hJx4 hy hRd
            gi_wp2_with fail
            refine bodyPost_ret (results_none rfl _ _ _) rfl ?_
            exact ⟨⟨_, rfl⟩, .inr ⟨_, by rw [HPX.out]; exact hpre, H4.out⟩⟩
    · obtain rfl : k = s.keys.length := by omega
      gi_wp2
      go_end0
      obtain ⟨pX, hpX, hJX⟩ := hin.out.2
      rw [hTo_all] at hpX
      exact ⟨⟨_, rfl⟩, .inl ⟨_, hpX, hJX⟩⟩
end Go.Proofs.YtepdkbmnkjfcpaaGreatDoor
