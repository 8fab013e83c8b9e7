/- The arena: where a word is, Read and Write: the walks. The arena: Read and Write: the walks. -/
import Derived.Test.YtepdkbmnkjfcpaaGreatDoorGaa
namespace Go.Proofs.YtepdkbmnkjfcpaaGreatDoor
open Go.RowKit Go.BigFrame Go.Maps Go.WideMaps Lf

theorem keys_mem {s : Slab} {p : Nat} : p ∈ s.keys ↔ ∃ l, (p, l) ∈ s.pages := by
  unfold Slab.keys
  simp
theorem page_none {s : Slab} {p : Nat} (h : p ∉ s.keys) : s.page? p = none := by
  unfold Slab.page?
  rw [List.lookup_eq_none_iff]
  intro x hx
  have : x.1 ≠ p := fun e => h (by unfold Slab.keys; exact List.mem_map.2 ⟨x, hx, e⟩)
  simpa using fun e => this e.symm
theorem page_some {s : Slab} {p : Nat} (h : p ∈ s.keys) : ∃ l, s.page? p = some l ∧ (p, l) ∈ s.pages := by
  unfold Slab.keys at h
  unfold Slab.page?
  generalize s.pages = l at *
  induction l with
  | nil => simp at h
  | cons x r ih =>
    by_cases e : p = x.1
    · subst e
      exact ⟨x.2, by simp [List.lookup], by simp⟩
    · have h' : p ∈ r.map (·.1) := by
        simp only [List.map_cons, List.mem_cons] at h
        exact h.resolve_left e
      obtain ⟨l, h1, h2⟩ := ih h'
      exact ⟨l, by rw [List.lookup_cons, show (p == x.1) = false by simpa using e]; exact h1, List.mem_cons_of_mem _ h2⟩
theorem err_top {s : Slab} {a : Nat} (h : lastAddr < a) : s.err a = 2 := by unfold Slab.err; rw [if_pos h]
theorem err_none {s : Slab} {a : Nat} (h : a ≤ lastAddr) (hp : a / 64 ∉ s.keys) : s.err a = 5 := by unfold Slab.err; rw [if_neg (by omega), page_none hp]
theorem err_ok {s : Slab} {a : Nat} (h : a ≤ lastAddr) (hp : a / 64 ∈ s.keys) : s.err a = 0 := by
  obtain ⟨l, h1, _⟩ := page_some hp
  unfold Slab.err
  rw [if_neg (by omega), h1]
theorem rd_none {s : Slab} {a : Nat} (hp : a / 64 ∉ s.keys) : s.rd a = 0 := by unfold Slab.rd; rw [page_none hp]
theorem rd_some {s : Slab} {a : Nat} {l : Page} (h : s.page? (a / 64) = some l) : s.rd a = l.getD (a % 64) 0 := by unfold Slab.rd; rw [h]

/-- the cell of a word -/
theorem SlabOn.word {w : World} {pa pm : Nat} {s : Slab} {Y : Nat → Prop} {blk : Nat → Nat} (h : SlabOn w pa pm s Y blk) {a : Nat} (hp : a / 64 ∈ s.keys) :
    w.cell? ⟨blk (a / 64), a % 64, none⟩ = some (.int .u64 (s.rd a : Nat)) ∧ w.frozen? ⟨blk (a / 64), a % 64, none⟩ = false := by
  obtain ⟨l, h1, h2⟩ := page_some hp
  have hb := h.pg _ h2
  have hl := h.wf.len _ h2
  refine ⟨?_, frozen_of_block hb⟩
  rw [cell_of_block hb, rd_some h1]
  simp only at hl
  have hlt : a % 64 < l.length := by omega
  simp [List.getElem?_eq_getElem hlt]
theorem SlabOn.rd_lt {w : World} {pa pm : Nat} {s : Slab} {Y : Nat → Prop} {blk : Nat → Nat} (h : SlabOn w pa pm s Y blk) (a : Nat) : s.rd a < 18446744073709551616 := by
  by_cases hp : a / 64 ∈ s.keys
  · obtain ⟨l, h1, h2⟩ := page_some hp
    rw [rd_some h1]
    have hl := h.wf.len _ h2
    simp only at hl
    have hlt : a % 64 < l.length := by omega
    rw [List.getD_eq_getElem?_getD, List.getElem?_eq_getElem hlt]
    exact h.wf.word _ h2 _ (List.getElem_mem hlt)
  · rw [rd_none hp]; decide

set_option maxRecDepth 100000 in
set_option maxHeartbeats 400000 in
theorem slab_none {w : World} {pa pm : Nat} {s : Slab} {Y : Nat → Prop} {blk : Nat → Nat} (h : SlabOn w pa pm s Y blk) :
    Calls Tryz.prog 179 #[PV pa] w fun e w' => e = .returned (.bool false) ∧ w = w' := by
  have c1 := h.cells.2
  have hm := run_eql_map_nil (P := Tryz.prog) w 151 3 258 (some pm) Tryz.underlying151
  clear h
  go_enter Tryz.func179, Tryz.ntmps179
  go_wp2
  go_ret
  exact ⟨rfl, rfl⟩

set_option maxRecDepth 100000 in
set_option maxHeartbeats 400000 in
theorem slab_at_no {w : World} {pa pm : Nat} {s : Slab} {Y : Nat → Prop} {blk : Nat → Nat} (h : SlabOn w pa pm s Y blk) (a : Nat) (ha : a ≤ 4611686018427387904) (hp : a / 64 ∉ s.keys ∨ lastAddr < a) :
    Calls Tryz.prog 130 #[PV pa, .int .i64 a] w fun e w' => e = .returned (.tuple #[.pointer none, .int .i64 (s.err a : Nat)]) ∧ w = w' := by
  have c1 := h.cells.2
  have hn := Lib.hid (slab_none h)
  have hl := h.look (a / 64) (by omega)
  rw [show ((a / 64 : Nat) : Int) = (a : Int) / 64 from by simp] at hl
  by_cases ht : lastAddr < a
  · have he := err_top (s := s) ht
    generalize s.err a = er at *
    subst he
    unfold lastAddr at ht
    clear hl hp h
    go_enter Tryz.func130, Tryz.ntmps130
    go_wp2_with fail
    refine hn.out.mono ?_
    rintro e w' ⟨rfl, rfl⟩
    go_wp2_with fail
    go_ret2
    exact ⟨rfl, rfl⟩
  · have hp' : a / 64 ∉ s.keys := hp.resolve_right ht
    have he := err_none (s := s) (by omega) hp'
    generalize s.err a = er at *
    subst he
    unfold lastAddr at ht
    have hv : pgV s.keys blk (a / 64) = .pointer none := by unfold pgV; rw [if_neg hp']
    rw [hv] at hl
    clear hv hp hp' h
    go_enter Tryz.func130, Tryz.ntmps130
    go_wp2_with fail
    refine hn.out.mono ?_
    rintro e w' ⟨rfl, rfl⟩
    go_wp2_with fail
    go_ret2
    exact ⟨rfl, rfl⟩

set_option maxRecDepth 100000 in
set_option maxHeartbeats 400000 in
theorem slab_at_ok {w : World} {pa pm : Nat} {s : Slab} {Y : Nat → Prop} {blk : Nat → Nat} (h : SlabOn w pa pm s Y blk) (a : Nat) (ha : a ≤ lastAddr) (hp : a / 64 ∈ s.keys) :
    Calls Tryz.prog 130 #[PV pa, .int .i64 a] w fun e w' => e = .returned (.tuple #[.pointer (some ⟨blk (a / 64), a % 64, none⟩), .int .i64 0]) ∧ w = w' := by
  unfold lastAddr at ha
  have c1 := h.cells.2
  have hn := Lib.hid (slab_none h)
  have hl := h.look (a / 64) (by omega)
  rw [show ((a / 64 : Nat) : Int) = (a : Int) / 64 from by simp] at hl
  have hv : pgV s.keys blk (a / 64) = PV (blk (a / 64)) := by unfold pgV; rw [if_pos hp]
  rw [hv] at hl
  have hq2 : ((a : Int) % 64).toNat = a % 64 := by omega
  have hq3 : (a : Int) % 64 < 64 := by omega
  have hq4 : 0 ≤ (a : Int) % 64 := by omega
  clear hv hp h
  generalize blk (a / 64) = b at *
  go_enter Tryz.func130, Tryz.ntmps130
  go_wp2_with fail
  refine hn.out.mono ?_
  rintro e w' ⟨rfl, rfl⟩
  go_wp2_with fail
  go_ret2
  exact ⟨rfl, rfl⟩
end Go.Proofs.YtepdkbmnkjfcpaaGreatDoor

namespace Go.Proofs.YtepdkbmnkjfcpaaGreatDoor
open Go.RowKit Go.BigFrame Go.Maps Go.WideMaps Lf

/-- what 'at' comes to -/
theorem SlabOn.atCases {w : World} {pa pm : Nat} {s : Slab} {Y : Nat → Prop} {blk : Nat → Nat} (h : SlabOn w pa pm s Y blk) (a : Nat) (ha : a ≤ 4611686018427387904) :
    ((s.err a = 0 ∧ a / 64 ∈ s.keys) ∧ Calls Tryz.prog 130 #[PV pa, .int .i64 a] w fun e w' => e = .returned (.tuple #[.pointer (some ⟨blk (a / 64), a % 64, none⟩), .int .i64 0]) ∧ w = w') ∨
    ((0 < s.err a ∧ s.rd a = 0 ∧ a / 64 ∉ s.keys) ∧ Calls Tryz.prog 130 #[PV pa, .int .i64 a] w fun e w' => e = .returned (.tuple #[.pointer none, .int .i64 (s.err a : Nat)]) ∧ w = w') := by
  by_cases ht : lastAddr < a
  · have hk : a / 64 ∉ s.keys := fun hk => by
      have := h.wf.top _ hk
      unfold lastAddr at ht
      omega
    exact Or.inr ⟨⟨by rw [err_top ht]; decide, rd_none hk, hk⟩, slab_at_no h a ha (Or.inr ht)⟩
  · by_cases hp : a / 64 ∈ s.keys
    · exact Or.inl ⟨⟨err_ok (by omega) hp, hp⟩, slab_at_ok h a (by omega) hp⟩
    · exact Or.inr ⟨⟨by rw [err_none (by omega) hp]; decide, rd_none hp, hp⟩, slab_at_no h a ha (Or.inl hp)⟩

set_option maxRecDepth 100000 in
set_option maxHeartbeats 400000 in
theorem slab_read {w : World} {pa pm : Nat} {s : Slab} {Y : Nat → Prop} {blk : Nat → Nat} (h : SlabOn w pa pm s Y blk) (a : Nat) (ha : a ≤ 4611686018427387904) :
    Calls Tryz.prog 98 #[PV pa, .int .i64 a] w fun e w' => e = .returned (.tuple #[.int .u64 (s.rd a : Nat), .int .i64 (s.err a : Nat)]) ∧ w = w' := by
  rcases h.atCases a ha with ⟨⟨he, hp⟩, hc⟩ | ⟨⟨he, hr, hp⟩, hc⟩
  · obtain ⟨c, _⟩ := h.word hp
    rw [he]
    generalize s.rd a = x at *
    generalize blk (a / 64) = b at *
    generalize a % 64 = o at *
    have HC := Lib.hid hc
    clear hc h he hp
    go_enter Tryz.func98, Tryz.ntmps98
    go_wp2_with fail
    refine HC.out.mono ?_
    rintro e w' ⟨rfl, rfl⟩
    go_wp2_with fail
    go_ret2
    exact ⟨rfl, rfl⟩
  · rw [hr]
    generalize s.err a = er at *
    have hb : ((er : Int) != 0) = true := by simp; omega
    have hb2 : ¬ (er : Int) = 0 := by omega
    have HC := Lib.hid hc
    clear hc h hr hp
    go_enter Tryz.func98, Tryz.ntmps98
    go_wp2_with fail
    refine HC.out.mono ?_
    rintro e w' ⟨rfl, rfl⟩
    go_wp2_with fail
    go_ret2
    exact ⟨rfl, rfl⟩

theorem wr_none {s : Slab} {a x : Nat} (hp : a / 64 ∉ s.keys) : s.wr a x = s := by
  unfold Slab.wr
  have : (s.pages.map fun y => if y.1 = a / 64 then (y.1, y.2.set (a % 64) x) else y) = s.pages := by
    conv => rhs; rw [← List.map_id s.pages]
    refine List.map_congr_left fun y hy => ?_
    have : y.1 ≠ a / 64 := fun e => hp (by unfold Slab.keys; exact List.mem_map.2 ⟨y, hy, e⟩)
    simp [this]
  rw [this]
theorem keys_wr (s : Slab) (a x : Nat) : (s.wr a x).keys = s.keys := by
  unfold Slab.wr Slab.keys
  simp only [List.map_map]
  refine List.map_congr_left fun y _ => ?_
  simp only [Function.comp_apply]
  split <;> rfl
theorem pages_wr_length (s : Slab) (a x : Nat) : (s.wr a x).pages.length = s.pages.length := by
  unfold Slab.wr
  simp
theorem mem_wr {s : Slab} {a x : Nat} {y : Nat × Page} (h : y ∈ (s.wr a x).pages) : ∃ l, (y.1, l) ∈ s.pages ∧ y.2 = if y.1 = a / 64 then l.set (a % 64) x else l := by
  unfold Slab.wr at h
  simp only [List.mem_map] at h
  obtain ⟨z, hz, rfl⟩ := h
  by_cases e : z.1 = a / 64
  · exact ⟨z.2, by simp [e]; rw [← e]; exact hz, by simp [e]⟩
  · exact ⟨z.2, by simp [e]; exact hz, by simp [e]⟩
theorem mem_set_word {l : List Nat} {i x v : Nat} (h : v ∈ l.set i x) : v ∈ l ∨ v = x := by
  exact List.mem_or_eq_of_mem_set h
theorem SlabWF.wr {s : Slab} (h : SlabWF s) (a x : Nat) (hx : x < 18446744073709551616) : SlabWF (s.wr a x) where
  sorted := by rw [keys_wr]; exact h.sorted
  len := fun y hy => by
    obtain ⟨l, h1, h2⟩ := mem_wr hy
    rw [h2]
    have := h.len _ h1
    simp only at this
    split
    · rw [List.length_set]; exact this
    · exact this
  word := fun y hy v hv => by
    obtain ⟨l, h1, h2⟩ := mem_wr hy
    rw [h2] at hv
    have := h.word _ h1
    simp only at this
    split at hv
    · rcases mem_set_word hv with hv | hv
      · exact this v hv
      · rw [hv]; exact hx
    · exact this v hv
  top := by rw [keys_wr]; exact h.top
  room := by rw [pages_wr_length]; exact h.room
  quota := h.quota

theorem heap_setCell {w : World} {b i : Nat} {cs : Array Value} {t : TypeId} {fr : Nat × Nat} {v : Value} (h : w.heap[b]? = some (.cells cs t fr)) : (w.setCell ⟨b, i, none⟩ v).heap[b]? = some (.cells (cs.setIfInBounds i v) t fr) := by
  simp [World.setCell, Array.getElem?_modify, h]
theorem heap_setCell_ne {w : World} {b k i : Nat} {v : Value} (h : k ≠ b) : (w.setCell ⟨b, i, none⟩ v).heap[k]? = w.heap[k]? := Below.heap_setCell w ⟨b, i, none⟩ v k h
theorem size_setCell (w : World) (a : Addr) (v : Value) : (w.setCell a v).heap.size = w.heap.size := by simp [World.setCell]

theorem ownsMap_of_block {w w' : World} {P : Program} {k : TypeId} {R : Value → Option (DataW Unit × List MemPlace)} {b n : Nat} {D : DataW Unit} (h : w.ownsMap P k R b n D) (hb : w'.heap[b]? = w.heap[b]?) : w'.ownsMap P k R b n D := by
  obtain ⟨es, clock, h1, F, hs, hD⟩ := h
  exact ⟨es, clock, hb.trans h1, F, hs, hD⟩
theorem SlabOn.map_block {w : World} {pa pm : Nat} {s : Slab} {Y : Nat → Prop} {blk : Nat → Nat} (h : SlabOn w pa pm s Y blk) : ∃ es clock, w.heap[pm]? = some (.map es clock) := by
  obtain ⟨es, clock, h1, _⟩ := h.map
  exact ⟨es, clock, h1⟩

/-- the arena behind a store into a page -/
theorem SlabOn.store {w : World} {pa pm : Nat} {s : Slab} {Y : Nat → Prop} {blk : Nat → Nat} (h : SlabOn w pa pm s Y blk) (a x : Nat) (hx : x < 18446744073709551616) (hp : a / 64 ∈ s.keys) :
    SlabOn (w.setCell ⟨blk (a / 64), a % 64, none⟩ (.int .u64 x)) pa pm (s.wr a x) Y blk ∧ Keep Y w (w.setCell ⟨blk (a / 64), a % 64, none⟩ (.int .u64 x)) := by
  obtain ⟨l, h1, h2⟩ := page_some hp
  have hb := h.pg _ h2
  simp only at hb
  have n1 : pa ≠ blk (a / 64) := fun e => by
    rw [← e, h.hd] at hb
    injection hb with hb
    injection hb with _ hb
    exact absurd hb (by decide)
  have n2 : pm ≠ blk (a / 64) := fun e => by
    obtain ⟨es, clock, hm⟩ := h.map_block
    rw [← e, hm] at hb
    cases hb
  have hY : ∀ k, Y k → k ≠ blk (a / 64) := fun k hk e => h.yp _ hp (by rw [← e]; exact hk)
  refine ⟨⟨h.wf.wr a x hx, ?_, ?_, ?_, ?_, h.ya, h.ym, ?_, ?_⟩, ⟨rfl, rfl, rfl, by rw [size_setCell]; exact Nat.le_refl _, fun k hk => heap_setCell_ne (hY k hk)⟩⟩
  · rw [heap_setCell_ne n1]
    exact h.hd
  · rw [pages_wr_length, keys_wr]
    exact ownsMap_of_block h.map (heap_setCell_ne n2)
  · intro y hy
    obtain ⟨m, k1, k2⟩ := mem_wr hy
    have hm := h.pg _ k1
    simp only at hm
    have hyk : y.1 ∈ s.keys := keys_mem.2 ⟨_, k1⟩
    by_cases e : y.1 = a / 64
    · rw [k2, if_pos e]
      rw [e] at hm ⊢
      rw [heap_setCell hm]
      congr 2
      simp [List.map_set]
    · rw [k2, if_neg e, heap_setCell_ne (fun e2 => e (h.inj _ hyk _ hp e2))]
      exact hm
  · rw [keys_wr]; exact h.inj
  · rw [keys_wr]; exact h.yp
  · intro k hk
    rw [size_setCell]
    exact h.yl k hk

set_option maxRecDepth 100000 in
set_option maxHeartbeats 400000 in
theorem slab_write {w : World} {pa pm : Nat} {s : Slab} {Y : Nat → Prop} {blk : Nat → Nat} (h : SlabOn w pa pm s Y blk) (a x : Nat) (ha : a ≤ 4611686018427387904) (hx : x < 18446744073709551616) :
    Calls Tryz.prog 128 #[PV pa, .int .i64 a, .int .u64 x] w fun e w' => e = .returned (.int .i64 (s.err a : Nat)) ∧ SlabOn w' pa pm (s.wr a x) Y blk ∧ Keep Y w w' := by
  rcases h.atCases a ha with ⟨⟨he, hp⟩, hc⟩ | ⟨⟨he, hr, hp⟩, hc⟩
  · obtain ⟨c, f⟩ := h.word hp
    have HS := Lib.hid (h.store a x hx hp)
    rw [he]
    generalize s.rd a = x0 at *
    generalize s.wr a x = s1 at *
    generalize blk (a / 64) = b at *
    generalize a % 64 = o at *
    have HC := Lib.hid hc
    clear hc h he hp
    go_enter Tryz.func128, Tryz.ntmps128
    go_wp2_with fail
    refine HC.out.mono ?_
    rintro e w' ⟨rfl, rfl⟩
    go_wp2_with fail
    go_ret
    exact ⟨rfl, HS.out⟩
  · rw [wr_none hp]
    generalize s.err a = er at *
    have hb : ((er : Int) == 0) = false := by simp; omega
    have hb2 : ¬ (er : Int) = 0 := by omega
    have HC := Lib.hid (And.intro hc h)
    clear hc h hr hp
    go_enter Tryz.func128, Tryz.ntmps128
    go_wp2_with fail
    refine HC.out.1.mono ?_
    rintro e w' ⟨rfl, rfl⟩
    go_wp2_with fail
    go_ret
    exact ⟨rfl, HC.out.2, Keep.refl _ _⟩
end Go.Proofs.YtepdkbmnkjfcpaaGreatDoor
