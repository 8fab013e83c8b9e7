import Derived.Test.YtcibkdbpicledaaGreatDoorWad
import Derived.Maps.OwnSet
import Derived.Deep.LoopGhost
import Derived.StillTail
set_option maxRecDepth 100000
set_option maxHeartbeats 1600000
namespace Go.Proofs.YtcibkdbpicledaaGreatDoor
open Go.RowKit Go.BigFrame Go.Maps Go.WideMaps Lf
theorem SlabOn.atCases {w : World} {pa pm : Nat} {s : Slab} {Y : Nat → Prop} {blk : Nat → Nat} (h : SlabOn w pa pm s Y blk) (a : Nat) (ha : a ≤ 4611686018427387904) :
 ((s.err a = 0 ∧ a / 64 ∈ s.keys) ∧ Calls Tryz.prog 122 #[PV pa, .int .i64 a] w fun e w' => e = .returned (.tuple #[.pointer (some ⟨blk (a / 64), a % 64, none⟩), .int .i64 0]) ∧ w = w') ∨
 ((0 < s.err a ∧ s.rd a = 0 ∧ a / 64 ∉ s.keys) ∧ Calls Tryz.prog 122 #[PV pa, .int .i64 a] w fun e w' => e = .returned (.tuple #[.pointer none, .int .i64 (s.err a : Nat)]) ∧ w = w') := by
 by_cases ht : lastAddr < a
 · have hk : a / 64 ∉ s.keys := fun hk => by
    have := h.wf.top _ hk
    unfold lastAddr at ht
    omega
   exact Or.inr ⟨⟨by rw [err_top ht]; decide, rd_none hk, hk⟩, slab_at_no h a ha (Or.inr ht)⟩
 · by_cases hp : a / 64 ∈ s.keys
   · exact Or.inl ⟨⟨err_ok (by omega) hp, hp⟩, slab_at_ok h a (by omega) hp⟩
   · exact Or.inr ⟨⟨by rw [err_none (by omega) hp]; decide, rd_none hp, hp⟩, slab_at_no h a ha (Or.inl hp)⟩
theorem slab_read {w : World} {pa pm : Nat} {s : Slab} {Y : Nat → Prop} {blk : Nat → Nat} (h : SlabOn w pa pm s Y blk) (a : Nat) (ha : a ≤ 4611686018427387904) :
 Calls Tryz.prog 102 #[PV pa, .int .i64 a] w fun e w' => e = .returned (.tuple #[.int .u64 (s.rd a : Nat), .int .i64 (s.err a : Nat)]) ∧ w = w' := by
 rcases h.atCases a ha with ⟨⟨he, hp⟩, hc⟩ | ⟨⟨he, hr, hp⟩, hc⟩
 · obtain ⟨c, _⟩ := h.word hp
   rw [he]
   generalize s.rd a = x at *
   generalize blk (a / 64) = b at *
   generalize a % 64 = o at *
   have HC := Lib.hid hc
   clear hc h he hp
   go_enter Tryz.func102, Tryz.ntmps102
   go_wp2_with fail
   refine HC.out.mono ?_
   rintro e w' ⟨rfl, rfl⟩
   go_wp2_with fail
   go_ret2
   exact ⟨rfl, rfl⟩
 · rw [hr]
   generalize s.err a = er at *
   have hb : ((er : Int) != 0) = true := by simp; omega
   have hb2 : ¬ (er : Int) = 0 := by omega
   have HC := Lib.hid hc
   clear hc h hr hp
   go_enter Tryz.func102, Tryz.ntmps102
   go_wp2_with fail
   refine HC.out.mono ?_
   rintro e w' ⟨rfl, rfl⟩
   go_wp2_with fail
   go_ret2
   exact ⟨rfl, rfl⟩
theorem wr_none {s : Slab} {a x : Nat} (hp : a / 64 ∉ s.keys) : s.wr a x = s := by
 unfold Slab.wr
 have : (s.pages.map fun y => if y.1 = a / 64 then (y.1, y.2.set (a % 64) x) else y) = s.pages := by
  conv => rhs; rw [← List.map_id s.pages]
  refine List.map_congr_left fun y hy => ?_
  have : y.1 ≠ a / 64 := fun e => hp (by unfold Slab.keys; exact List.mem_map.2 ⟨y, hy, e⟩)
  simp [this]
 rw [this]
theorem keys_wr (s : Slab) (a x : Nat) : (s.wr a x).keys = s.keys := by
 unfold Slab.wr Slab.keys
 simp only [List.map_map]
 refine List.map_congr_left fun y _ => ?_
 simp only [Function.comp_apply]
 split <;> rfl
theorem pages_wr_length (s : Slab) (a x : Nat) : (s.wr a x).pages.length = s.pages.length := by
 unfold Slab.wr
 simp
theorem mem_wr {s : Slab} {a x : Nat} {y : Nat × Page} (h : y ∈ (s.wr a x).pages) : ∃ l, (y.1, l) ∈ s.pages ∧ y.2 = if y.1 = a / 64 then l.set (a % 64) x else l := by
 unfold Slab.wr at h
 simp only [List.mem_map] at h
 obtain ⟨z, hz, rfl⟩ := h
 by_cases e : z.1 = a / 64
 · exact ⟨z.2, by simp [e]; rw [← e]; exact hz, by simp [e]⟩
 · exact ⟨z.2, by simp [e]; exact hz, by simp [e]⟩
theorem mem_set_word {l : List Nat} {i x v : Nat} (h : v ∈ l.set i x) : v ∈ l ∨ v = x := by
 exact List.mem_or_eq_of_mem_set h
theorem SlabWF.wr {s : Slab} (h : SlabWF s) (a x : Nat) (hx : x < 18446744073709551616) : SlabWF (s.wr a x) where
 sorted := by rw [keys_wr]; exact h.sorted
 len := fun y hy => by
  obtain ⟨l, h1, h2⟩ := mem_wr hy
  rw [h2]
  have := h.len _ h1
  simp only at this
  split
  · rw [List.length_set]; exact this
  · exact this
 word := fun y hy v hv => by
  obtain ⟨l, h1, h2⟩ := mem_wr hy
  rw [h2] at hv
  have := h.word _ h1
  simp only at this
  split at hv
  · rcases mem_set_word hv with hv | hv
    · exact this v hv
    · rw [hv]; exact hx
  · exact this v hv
 top := by rw [keys_wr]; exact h.top
 room := by rw [pages_wr_length]; exact h.room
 quota := h.quota
theorem heap_setCell {w : World} {b i : Nat} {cs : Array Value} {t : TypeId} {fr : Nat × Nat} {v : Value} (h : w.heap[b]? = some (.cells cs t fr)) : (w.setCell ⟨b, i, none⟩ v).heap[b]? = some (.cells (cs.setIfInBounds i v) t fr) := by
 simp [World.setCell, Array.getElem?_modify, h]
theorem heap_setCell_ne {w : World} {b k i : Nat} {v : Value} (h : k ≠ b) : (w.setCell ⟨b, i, none⟩ v).heap[k]? = w.heap[k]? := Below.heap_setCell w ⟨b, i, none⟩ v k h
theorem size_setCell (w : World) (a : Addr) (v : Value) : (w.setCell a v).heap.size = w.heap.size := by simp [World.setCell]
theorem ownsMap_of_block {w w' : World} {P : Program} {k : TypeId} {R : Value → Option (DataW Unit × List MemPlace)} {b n : Nat} {D : DataW Unit} (h : w.ownsMap P k R b n D) (hb : w'.heap[b]? = w.heap[b]?) : w'.ownsMap P k R b n D := by
 obtain ⟨es, clock, h1, F, hs, hD⟩ := h
 exact ⟨es, clock, hb.trans h1, F, hs, hD⟩
theorem SlabOn.map_block {w : World} {pa pm : Nat} {s : Slab} {Y : Nat → Prop} {blk : Nat → Nat} (h : SlabOn w pa pm s Y blk) : ∃ es clock, w.heap[pm]? = some (.map es clock) := by
 obtain ⟨es, clock, h1, _⟩ := h.map
 exact ⟨es, clock, h1⟩
theorem SlabOn.store {w : World} {pa pm : Nat} {s : Slab} {Y : Nat → Prop} {blk : Nat → Nat} (h : SlabOn w pa pm s Y blk) (a x : Nat) (hx : x < 18446744073709551616) (hp : a / 64 ∈ s.keys) :
 SlabOn (w.setCell ⟨blk (a / 64), a % 64, none⟩ (.int .u64 x)) pa pm (s.wr a x) Y blk ∧ Keep Y w (w.setCell ⟨blk (a / 64), a % 64, none⟩ (.int .u64 x)) := by
 obtain ⟨l, h1, h2⟩ := page_some hp
 have hb := h.pg _ h2
 simp only at hb
 have n1 : pa ≠ blk (a / 64) := fun e => by
  rw [← e, h.hd] at hb
  injection hb with hb
  injection hb with _ hb
  exact absurd hb (by decide)
 have n2 : pm ≠ blk (a / 64) := fun e => by
  obtain ⟨es, clock, hm⟩ := h.map_block
  rw [← e, hm] at hb
  cases hb
 have hY : ∀ k, Y k → k ≠ blk (a / 64) := fun k hk e => h.yp _ hp (by rw [← e]; exact hk)
 refine ⟨⟨h.wf.wr a x hx, ?_, ?_, ?_, ?_, h.ya, h.ym, ?_, ?_⟩, ⟨rfl, rfl, rfl, by rw [size_setCell]; exact Nat.le_refl _, fun k hk => heap_setCell_ne (hY k hk)⟩⟩
 · rw [heap_setCell_ne n1]
   exact h.hd
 · rw [pages_wr_length, keys_wr]
   exact ownsMap_of_block h.map (heap_setCell_ne n2)
 · intro y hy
   obtain ⟨m, k1, k2⟩ := mem_wr hy
   have hm := h.pg _ k1
   simp only at hm
   have hyk : y.1 ∈ s.keys := keys_mem.2 ⟨_, k1⟩
   by_cases e : y.1 = a / 64
   · rw [k2, if_pos e]
     rw [e] at hm ⊢
     rw [heap_setCell hm]
     congr 2
     simp [List.map_set]
   · rw [k2, if_neg e, heap_setCell_ne (fun e2 => e (h.inj _ hyk _ hp e2))]
     exact hm
 · rw [keys_wr]; exact h.inj
 · rw [keys_wr]; exact h.yp
 · intro k hk
   rw [size_setCell]
   exact h.yl k hk
theorem slab_write {w : World} {pa pm : Nat} {s : Slab} {Y : Nat → Prop} {blk : Nat → Nat} (h : SlabOn w pa pm s Y blk) (a x : Nat) (ha : a ≤ 4611686018427387904) (hx : x < 18446744073709551616) :
 Calls Tryz.prog 95 #[PV pa, .int .i64 a, .int .u64 x] w fun e w' => e = .returned (.int .i64 (s.err a : Nat)) ∧ SlabOn w' pa pm (s.wr a x) Y blk ∧ Keep Y w w' := by
 rcases h.atCases a ha with ⟨⟨he, hp⟩, hc⟩ | ⟨⟨he, hr, hp⟩, hc⟩
 · obtain ⟨c, f⟩ := h.word hp
   have HS := Lib.hid (h.store a x hx hp)
   rw [he]
   generalize s.rd a = x0 at *
   generalize s.wr a x = s1 at *
   generalize blk (a / 64) = b at *
   generalize a % 64 = o at *
   have HC := Lib.hid hc
   clear hc h he hp
   go_enter Tryz.func95, Tryz.ntmps95
   go_wp2_with fail
   refine HC.out.mono ?_
   rintro e w' ⟨rfl, rfl⟩
   go_wp2_with fail
   go_ret
   exact ⟨rfl, HS.out⟩
 · rw [wr_none hp]
   generalize s.err a = er at *
   have hb : ((er : Int) == 0) = false := by simp; omega
   have hb2 : ¬ (er : Int) = 0 := by omega
   have HC := kq2 hc h
   clear hc h hr hp
   go_enter Tryz.func95, Tryz.ntmps95
   go_wp2_with fail
   refine HC.out.1.mono ?_
   rintro e w' ⟨rfl, rfl⟩
   go_wp2_with fail
   go_ret
   exact ⟨rfl, HC.out.2, Keep.refl _ _⟩
end Go.Proofs.YtcibkdbpicledaaGreatDoor
namespace Go.Proofs.YtcibkdbpicledaaGreatDoor
open Go.RowKit Go.BigFrame Go.Maps Go.WideMaps Lf
open Go.ChangeMaps (setBlock)
def insK (p : Nat) : List Nat → List Nat
 | [] => [p]
 | x :: r => if x < p then x :: insK p r else p :: x :: r
theorem keys_ins (p : Nat) (l : Page) (r : List (Nat × Page)) : (ins p l r).map (·.1) = insK p (r.map (·.1)) := by
 induction r with
 | nil => rfl
 | cons x r ih =>
  simp only [ins, List.map_cons, insK]
  split
  · rw [List.map_cons, ih]
  · rfl
theorem keys_add (s : Slab) (p : Nat) : (s.add p).keys = insK p s.keys := keys_ins p zeros s.pages
theorem mem_insK {p q : Nat} {ks : List Nat} : q ∈ insK p ks ↔ q = p ∨ q ∈ ks := by
 induction ks with
 | nil => simp [insK]
 | cons x r ih =>
  unfold insK
  split
  · simp only [List.mem_cons, ih]
    constructor
    · rintro (h | h | h)
      · exact Or.inr (Or.inl h)
      · exact Or.inl h
      · exact Or.inr (Or.inr h)
    · rintro (h | h | h)
      · exact Or.inr (Or.inl h)
      · exact Or.inl h
      · exact Or.inr (Or.inr h)
  · simp
theorem sorted_insK {p : Nat} {ks : List Nat} (h : ks.Pairwise (· < ·)) (hp : p ∉ ks) : (insK p ks).Pairwise (· < ·) := by
 induction ks with
 | nil => simp [insK]
 | cons x r ih =>
  rw [List.pairwise_cons] at h
  unfold insK
  simp only [List.mem_cons, not_or] at hp
  split
  · rename_i hx
    rw [List.pairwise_cons]
    refine ⟨fun q hq => ?_, ih h.2 hp.2⟩
    rcases mem_insK.1 hq with e | hq
    · omega
    · exact h.1 q hq
  · rw [List.pairwise_cons]
    refine ⟨fun q hq => ?_, by rw [List.pairwise_cons]; exact h⟩
    rcases List.mem_cons.1 hq with e | hq
    · omega
    · have := h.1 q hq
      omega
theorem mem_ins {p : Nat} {l : Page} {r : List (Nat × Page)} {y : Nat × Page} : y ∈ ins p l r ↔ y = (p, l) ∨ y ∈ r := by
 induction r with
 | nil => simp [ins]
 | cons x r ih =>
  unfold ins
  split
  · simp only [List.mem_cons, ih]
    constructor
    · rintro (h | h | h)
      · exact Or.inr (Or.inl h)
      · exact Or.inl h
      · exact Or.inr (Or.inr h)
    · rintro (h | h | h)
      · exact Or.inr (Or.inl h)
      · exact Or.inl h
      · exact Or.inr (Or.inr h)
  · simp
theorem length_ins (p : Nat) (l : Page) (r : List (Nat × Page)) : (ins p l r).length = r.length + 1 := by
 induction r with
 | nil => rfl
 | cons x r ih =>
  unfold ins
  split
  · simp [ih]
  · simp
theorem SlabWF.add {s : Slab} (h : SlabWF s) {p : Nat} (hp : p ∉ s.keys) (ht : p ≤ 1048575) (hr : (s.pages.length + 1) * 64 ≤ s.quota) : SlabWF (s.add p) where
 sorted := by rw [keys_add]; exact sorted_insK h.sorted hp
 len := fun y hy => by
  rcases mem_ins.1 hy with rfl | hy
  · simp [zeros]
  · exact h.len y hy
 word := fun y hy v hv => by
  rcases mem_ins.1 hy with rfl | hy
  · have : v = 0 := by simpa [zeros] using hv
    rw [this]; decide
  · exact h.word y hy v hv
 top := fun q hq => by
  rw [keys_add] at hq
  rcases mem_insK.1 hq with rfl | hq
  · exact ht
  · exact h.top q hq
 room := by
  show (ins p zeros s.pages).length * 64 ≤ s.quota
  rw [length_ins]
  exact hr
 quota := h.quota
theorem pgD_put (ks : List Nat) (blk : Nat → Nat) (p b : Nat) (hp : p ∉ ks) : (pgD ks blk).put (.int .i64 p) (.lit (.int .i64 b)) = pgD (insK p ks) fun q => if q = p then b else blk q := by
 unfold pgD DataW.put
 simp only
 congr 1
 have hf : ((ks.map fun q : Nat => (Lit.int .i64 (q : Int), DataW.lit (H := Unit) (.int .i64 (blk q)))).filter fun x => !x.1.sameKey (.int .i64 p)) = ks.map fun q : Nat => (Lit.int .i64 (q : Int), DataW.lit (H := Unit) (.int .i64 (blk q))) := by
  rw [List.filter_eq_self]
  intro x hx
  obtain ⟨q, hq, rfl⟩ := List.mem_map.1 hx
  have : ¬ (q : Int) = p := fun e => hp (by rw [← Int.ofNat.inj e]; exact hq)
  simp [Lit.sameKey, this]
 rw [hf]
 clear hf
 induction ks with
 | nil => simp [insK, DataW.insert]
 | cons x r ih =>
  simp only [List.mem_cons, not_or] at hp
  simp only [List.map_cons, insK, DataW.insert, Lit.before]
  by_cases h : x < p
  · have h2 : ¬ (p : Int) < x := by omega
    rw [if_pos h]
    simp only [h2, decide_false, Bool.false_eq_true, if_false, List.map_cons]
    rw [ih hp.2]
    have : ¬ x = p := by omega
    simp [this]
  · have h2 : (p : Int) < x := by omega
    rw [if_neg h]
    simp only [h2, decide_true, if_true, List.map_cons]
    have h3 : ¬ x = p := by omega
    simp only [h3, if_false]
    congr 2
    refine List.map_congr_left fun q hq => ?_
    have : ¬ q = p := fun e => hp.2 (by rw [← e]; exact hq)
    simp [this]
theorem pgD_size (ks : List Nat) (blk : Nat → Nat) : Maps.size (pgD ks blk) = ks.length := by simp [pgD, Maps.size]
theorem pgD_del (ks : List Nat) (blk : Nat → Nat) (p : Nat) : (pgD ks blk).del (.int .i64 p) = pgD (ks.filter fun q => q ≠ p) blk := by
 unfold pgD DataW.del
 simp only
 congr 1
 rw [List.filter_map]
 congr 1
 refine List.filter_congr fun q _ => ?_
 simp only [Function.comp_apply, Lit.sameKey, true_and]
 by_cases e : q = p
 · subst e; simp
 · have : ¬ (q : Int) = p := by omega
   simp [e, this]
theorem ownsMap_tight {w : World} {P : Program} {k : TypeId} {R : Value → Option (DataW Unit × List MemPlace)} {b n : Nat} {D : DataW Unit} (h : w.ownsMap P k R b n D) : w.ownsMap P k R b (Maps.size D) D := by
 obtain ⟨es, clock, h1, F, hs, hD⟩ := h
 refine ⟨es, clock, h1, F, ?_, hD⟩
 rw [hD]
 simp [Maps.size, length_sorted]
theorem intWf {p : Nat} (hp : p ≤ 9223372036854775807) : (Lit.int .i64 (p : Int)).wf = true := by
 have h1 : IntKind.min .i64 ≤ (p : Int) := by show (-9223372036854775808 : Int) ≤ p; omega
 have h2 : (p : Int) ≤ IntKind.max .i64 := by show (p : Int) ≤ 9223372036854775807; omega
 simp only [Lit.wf, h1, h2, decide_true, Bool.and_self]
theorem keys_length (s : Slab) : s.keys.length = s.pages.length := by simp [Slab.keys]
theorem SlabOn.more {w : World} {pa pm : Nat} {s : Slab} {Y : Nat → Prop} {blk : Nat → Nat} (h : SlabOn w pa pm s Y blk) {p : Nat} (hp : p ∉ s.keys) (ht : p ≤ 1048575) (hr : (s.pages.length + 1) * 64 ≤ s.quota) :
 ∃ w', (Instr.mapUpdate 169 (.map (some pm)) (.int .i64 p) (PV w.heap.size)).run Tryz.prog (w.alloc (.cells (zeros.map fun v : Nat => Value.int .u64 v).toArray 240 (0, 0))) = .ok () w' ∧
  SlabOn w' pa pm (s.add p) Y (fun q => if q = p then w.heap.size else blk q) ∧ Keep Y w w' := by
 obtain ⟨es0, ck0, hm0⟩ := h.map_block
 have hpm : pm < w.heap.size := (gl hm0)
 have hown := h.map.alloc (.cells (zeros.map fun v : Nat => Value.int .u64 v).toArray 240 (0, 0))
 have hn : s.pages.length < maxLen := by have := h.wf.room; have := h.wf.quota; unfold maxLen; omega
 obtain ⟨w', hrun, hown', es, ck, es', ck', hm, rfl⟩ := hown.store lawInt Tryz.underlying169 hn (keyOf_int_mk Tryz.underlying3 (intWf (p := p) (by omega))) (pgElem_pv w.heap.size)
 rw [pgD_put _ _ _ _ hp] at hown'
 have hold : ∀ k, k < w.heap.size → k ≠ pm → (setBlock (w.alloc (.cells (zeros.map fun v : Nat => Value.int .u64 v).toArray 240 (0, 0))) pm (.map es' ck')).heap[k]? = w.heap[k]? := fun k hk hne => by
  rw [ChangeMaps.heap_setBlock_other hm _ hne, Below.heap_alloc _ _ _ hk]
 have hlt : ∀ k, Y k → k < w.heap.size ∧ k ≠ pm := fun k hk => ⟨h.yl k hk, fun e => h.ym (by rw [← e]; exact hk)⟩
 have hbl : ∀ q ∈ s.keys, blk q < w.heap.size ∧ blk q ≠ pm := fun q hq => by
  obtain ⟨l, hl⟩ := keys_mem.1 hq
  have hb := h.pg _ hl
  refine ⟨(gl hb), fun e => ?_⟩
  simp only [e, hm0] at hb
  cases hb
 have hpa : pa < w.heap.size ∧ pa ≠ pm := by
  refine ⟨(gl h.hd), fun e => ?_⟩
  have := h.hd
  rw [e, hm0] at this
  cases this
 refine ⟨_, hrun, ⟨h.wf.add hp ht hr, ?_, ?_, ?_, ?_, h.ya, h.ym, ?_, ?_⟩, ⟨rfl, rfl, rfl, ?_, fun k hk => hold k (hlt k hk).1 (hlt k hk).2⟩⟩
 · rw [hold pa hpa.1 hpa.2]; exact h.hd
 · have := ownsMap_tight hown'
   rw [pgD_size, ← keys_add, keys_length] at this
   exact this
 · intro x hx
   rcases mem_ins.1 hx with rfl | hx
   · simp only [if_true]
     rw [ChangeMaps.heap_setBlock_other hm _ (by omega)]
     show (w.heap.push _)[w.heap.size]? = _
     simp
   · have hk : x.1 ∈ s.keys := keys_mem.2 ⟨_, hx⟩
     have hne : x.1 ≠ p := fun e => hp (by rw [← e]; exact hk)
     simp only [hne, if_false]
     rw [hold _ (hbl _ hk).1 (hbl _ hk).2]
     exact h.pg x hx
 · intro a ha b hb
   rw [keys_add] at ha hb
   rcases mem_insK.1 ha with ea | ha1 <;> rcases mem_insK.1 hb with eb | hb1
   · exact fun _ => ea.trans eb.symm
   · have hne : b ≠ p := fun e => hp (by rw [← e]; exact hb1)
     have := (hbl b hb1).1
     simp only [ea, hne, if_true, if_false]
     omega
   · have hne : a ≠ p := fun e => hp (by rw [← e]; exact ha1)
     have := (hbl a ha1).1
     simp only [eb, hne, if_true, if_false]
     omega
   · have h1 : a ≠ p := fun e => hp (by rw [← e]; exact ha1)
     have h2 : b ≠ p := fun e => hp (by rw [← e]; exact hb1)
     simp only [h1, h2, if_false]
     exact h.inj a ha1 b hb1
 · intro q hq
   rw [keys_add] at hq
   rcases mem_insK.1 hq with rfl | hq
   · simp only [if_true]
     exact fun hy => absurd (h.yl _ hy) (by omega)
   · have hne : q ≠ p := fun e => hp (by rw [← e]; exact hq)
     simp only [hne, if_false]
     exact h.yp q hq
 · intro k hk
   have := h.yl k hk
   simp [setBlock]
   omega
 · simp [setBlock]
theorem keys_del (s : Slab) (p : Nat) : (s.del p).keys = s.keys.filter fun q => q ≠ p := by
 unfold Slab.del Slab.keys
 simp only
 rw [List.filter_map]
 rfl
theorem mem_keys_del {s : Slab} {p q : Nat} : q ∈ (s.del p).keys ↔ q ∈ s.keys ∧ q ≠ p := by
 rw [keys_del, List.mem_filter]
 simp
theorem mem_del {s : Slab} {p : Nat} {x : Nat × Page} : x ∈ (s.del p).pages ↔ x ∈ s.pages ∧ x.1 ≠ p := by
 unfold Slab.del
 simp
theorem SlabWF.del {s : Slab} (h : SlabWF s) (p : Nat) : SlabWF (s.del p) where
 sorted := by rw [keys_del]; exact h.sorted.filter _
 len := fun y hy => h.len y (mem_del.1 hy).1
 word := fun y hy => h.word y (mem_del.1 hy).1
 top := fun q hq => h.top q (mem_keys_del.1 hq).1
 room := by
  have h1 : (s.del p).pages.length ≤ s.pages.length := List.length_filter_le _ _
  have := h.room
  show _ ≤ s.quota
  omega
 quota := h.quota
theorem SlabOn.less {w : World} {pa pm : Nat} {s : Slab} {Y : Nat → Prop} {blk : Nat → Nat} (h : SlabOn w pa pm s Y blk) (p : Nat) (hp : p ≤ 9223372036854775807) (ty : TypeId) :
 ∃ w', (Builtin.delete_ #[169, 3] ty #[.map (some pm), .int .i64 p]).run Tryz.prog w = .ok (.tuple #[]) w' ∧ SlabOn w' pa pm (s.del p) Y blk ∧ Keep Y w w' := by
 obtain ⟨w', hrun, hown', es, ck, es', ck', hm, rfl⟩ := h.map.drop lawInt Tryz.underlying169 (keyOf_int_mk Tryz.underlying3 (intWf hp)) ty
 rw [pgD_del, ← keys_del] at hown'
 have hold : ∀ k, k ≠ pm → (setBlock w pm (.map es' ck')).heap[k]? = w.heap[k]? := fun k hne => ChangeMaps.heap_setBlock_other hm _ hne
 have hpa : pa ≠ pm := fun e => by
  have := h.hd
  rw [e, hm] at this
  cases this
 have hbl : ∀ x ∈ s.pages, blk x.1 ≠ pm := fun x hx e => by
  have hb := h.pg x hx
  rw [e, hm] at hb
  cases hb
 refine ⟨_, hrun, ⟨h.wf.del p, ?_, ?_, ?_, ?_, h.ya, h.ym, ?_, ?_⟩, ⟨rfl, rfl, rfl, ?_, fun k hk => hold k fun e => h.ym (by rw [← e]; exact hk)⟩⟩
 · rw [hold pa hpa]; exact h.hd
 · have := ownsMap_tight hown'
   rw [pgD_size, keys_length] at this
   exact this
 · intro x hx
   rw [hold _ (hbl x (mem_del.1 hx).1)]
   exact h.pg x (mem_del.1 hx).1
 · intro a ha b hb
   exact h.inj a (mem_keys_del.1 ha).1 b (mem_keys_del.1 hb).1
 · intro q hq
   exact h.yp q (mem_keys_del.1 hq).1
 · intro k hk
   have := h.yl k hk
   simp [setBlock]
   exact this
 · simp [setBlock]
theorem slab_empty_on (w : World) (q : Nat) (hq : q ≤ 262144) (Y : Nat → Prop) (hy : ∀ k, Y k → k < w.heap.size) :
 SlabOn ((w.alloc (.map #[] 0)).alloc (.cells #[.int .i64 q, .map (some w.heap.size)] 171 (0, 0))) (w.heap.size + 1) w.heap.size ⟨q, []⟩ Y (fun _ => 0) := by
 refine ⟨⟨by simp [Slab.keys], by simp, by simp, by simp [Slab.keys], by simp, hq⟩, ?_, ?_, by simp, by simp [Slab.keys], ?_, ?_, by simp [Slab.keys], ?_⟩
 · show (((w.heap.push _).push _))[w.heap.size + 1]? = _
   rw [Array.getElem?_push, if_pos (by simp)]
 · have := World.ownsMap_made w Tryz.prog 3 pgElem
   exact this.alloc _
 · exact fun h => absurd (hy _ h) (by omega)
 · exact fun h => absurd (hy _ h) (by omega)
 · intro k hk
   have := hy k hk
   simp
   omega
theorem slab_new (n : Nat) (w : World) (Y : Nat → Prop) (hy : ∀ k, Y k → k < w.heap.size) (hn : n ≤ 262144) :
 Calls Tryz.prog 76 #[.int .i64 n] w fun e w' =>
  e = .returned (.tuple #[PV (w.heap.size + 1), .int .i64 0]) ∧ SlabOn w' (w.heap.size + 1) w.heap.size ⟨n, []⟩ Y (fun _ => 0) ∧ Keep Y w w' := by
 have HS := Lib.hid (slab_empty_on w n hn Y hy)
 have hq' : ¬ (262144 : Int) < n := by omega
 have hmm := @run_makeMap Tryz.prog
 go_enter Tryz.func76, Tryz.ntmps76
 go_wp2
 go_ret2
 exact ⟨rfl, HS.out, Keep.of_below (((Below.refl _ w).alloc (Nat.le_refl _) _).alloc (by simp) _) hy⟩
end Go.Proofs.YtcibkdbpicledaaGreatDoor
namespace Go.Proofs.YtcibkdbpicledaaGreatDoor
open Go.RowKit Go.BigFrame Go.Maps Go.WideMaps Lf
theorem page_isSome {s : Slab} {p : Nat} : (s.page? p).isSome = true ↔ p ∈ s.keys := by
 constructor
 · intro h
   refine Classical.byContradiction fun hn => ?_
   rw [page_none hn] at h
   cases h
 · intro h
   obtain ⟨l, h1, _⟩ := page_some h
   rw [h1]; rfl
theorem runIs_iff {s : Slab} {n p : Nat} : s.runIs n p = true ↔ ∀ k, k < n → p + k ∈ s.keys := by
 unfold Slab.runIs
 rw [List.all_eq_true]
 simp only [List.mem_range, page_isSome]
theorem run_iff {s : Slab} {n p : Nat} : s.run n p = true ↔ ∀ k, k < n → p + k ∉ s.keys := by
 unfold Slab.run
 rw [List.all_eq_true]
 simp only [List.mem_range]
 refine forall_congr' fun k => imp_congr_right fun _ => ?_
 rw [Option.isNone_iff_eq_none]
 constructor
 · intro h hk
   obtain ⟨l, h1, _⟩ := page_some hk
   rw [h1] at h
   cases h
 · exact page_none
theorem mem_keys_delRun {s : Slab} {p q : Nat} : ∀ {n : Nat}, q ∈ (s.delRun p n).keys ↔ q ∈ s.keys ∧ ¬ (p ≤ q ∧ q < p + n)
 | 0 => by
  show q ∈ s.keys ↔ _
  constructor
  · exact fun h => ⟨h, by omega⟩
  · exact fun h => h.1
 | n + 1 => by
  show q ∈ ((s.delRun p n).del (p + n)).keys ↔ _
  rw [mem_keys_del, mem_keys_delRun]
  constructor
  · rintro ⟨⟨h1, h2⟩, h3⟩
    exact ⟨h1, by omega⟩
  · rintro ⟨h1, h2⟩
    exact ⟨⟨h1, by omega⟩, by omega⟩
theorem slab_release {w : World} {pa pm : Nat} {s : Slab} {Y : Nat → Prop} {blk : Nat → Nat} (h : SlabOn w pa pm s Y blk) (p n : Nat) (hp : p ≤ 1048575) (hn : n ≤ 100000000) :
 Calls Tryz.prog 118 #[PV pa, .int .i64 p, .int .i64 n] w fun e w' => e = .returned (.int .i64 ((s.release p n).1 : Nat)) ∧ SlabOn w' pa pm (s.release p n).2 Y blk ∧ Keep Y w w' := by
 have c1 := h.cells.2
 have hno := Lib.hid (slab_none h)
 by_cases hg : n < 1 ∨ 4096 < n ∨ 1048575 + 1 < p + n
 · have he : s.release p n = (2, s) := by unfold Slab.release; rw [if_pos hg]
   rw [he]
   have H := Lib.hid h
   have hg' : n < 1 ∨ (1 ≤ n ∧ 4096 < n) ∨ (1 ≤ n ∧ n ≤ 4096 ∧ 1048575 + 1 < p + n) := by omega
   clear h he hg
   rcases hg' with hg | ⟨hg1, hg⟩ | ⟨hg1, hg2, hg⟩
   all_goals
    go_enter Tryz.func118, Tryz.ntmps118
    go_wp2_with fail
    refine hno.out.mono ?_
    rintro e w' ⟨rfl, rfl⟩
    go_wp2_with fail
    go_ret
    exact ⟨rfl, H.out, Keep.refl _ _⟩
 · have hg1 : 1 ≤ n := by omega
   have hg2 : n ≤ 4096 := by omega
   have hg3 : p + n ≤ 1048576 := by omega
   have hg4 : ¬ ((1048575 : Int) - n + 1 < p) := by omega
   have he : s.release p n = if s.runIs n p then (0, s.delRun p n) else (5, s) := by unfold Slab.release; rw [if_neg hg]
   obtain ⟨R, hR⟩ : ∃ R, s.release p n = R := ⟨_, rfl⟩
   rw [hR] at he ⊢
   have HR := Lib.hid he
   have HL := Lib.hid (fun k (hk : k < n) => h.look (p + k) (by omega))
   have HS := Lib.hid h
   clear he hg h hR
   go_enter Tryz.func118, Tryz.ntmps118
   go_wp2_with fail
   refine hno.out.mono ?_
   rintro e w' ⟨rfl, rfl⟩
   go_wp2_with fail
   go_loop [7, 31] (fun _ i => ∃ k : Nat, k ≤ n ∧ i = .int .i64 k ∧ Hid (∀ j, j < k → p + j ∈ s.keys)) (fun _ i => n - (intOf i).toNat)
   case atStart => exact ⟨0, by omega, rfl, fun j hj => absurd hj (by omega)⟩
   case round =>
    obtain ⟨k, hk, rfl, hin⟩ := hrel
    by_cases hlt : k < n
    · have hl := HL.out k hlt
      rw [show ((p + k : Nat) : Int) = (p : Int) + k from by simp] at hl
      by_cases hm : p + k ∈ s.keys
      · have hv : pgV s.keys blk (p + k) = PV (blk (p + k)) := by unfold pgV; rw [if_pos hm]
        rw [hv] at hl
        generalize blk (p + k) = b at *
        have HM := Lib.hid hm
        clear hv hm
        go_wp2_with fail
        go_round
        case rel => exact ⟨k + 1, by omega, by go_num, fun j hj => by
         by_cases e : j = k
         · rw [e]; exact HM.out
         · exact hin.out j (by omega)⟩
        case measure => simp [intOf]; omega
      · have hv : pgV s.keys blk (p + k) = .pointer none := by unfold pgV; rw [if_neg hm]
        rw [hv] at hl
        have hri : s.runIs n p = false := by
         refine Bool.eq_false_iff.2 fun hr => hm (runIs_iff.1 hr k hlt)
        have HR2 := Lib.hid hri
        clear hv hm hri
        go_wp2_with fail
        go_ret
        obtain rfl : R = (5, s) := by rw [HR.out, HR2.out]; rfl
        exact ⟨rfl, HS.out, Keep.refl _ _⟩
    · obtain rfl : k = n := by omega
      have hri : s.runIs k p = true := runIs_iff.2 hin.out
      have HR2 := Lib.hid hri
      clear hin hri HL hlt c1 hk
      go_wp2_with fail
      go_loopw [8, 45] (fun _ i wr => ∃ j : Nat, j ≤ k ∧ i = .int .i64 j ∧ Hid (SlabOn wr pa pm (s.delRun p j) Y blk ∧ Keep Y w wr)) (fun _ i _ => k - (intOf i).toNat)
      case atStart => exact ⟨0, by omega, rfl, HS.out, Keep.refl _ _⟩
      case round =>
       obtain ⟨j, hj, rfl, hin⟩ := hrel
       have c1 := hin.out.1.cells.2
       by_cases hlt : j < k
       · obtain ⟨w1, hrun, hS1, hK1⟩ := hin.out.1.less (p + j) (by omega) 0
         rw [show ((p + j : Nat) : Int) = (p : Int) + j from by simp] at hrun
         have HN := kq2 hS1 hK1
         clear hS1 hK1
         go_wp2_with fail
         go_roundw
         case rel => exact ⟨j + 1, by omega, by go_num, HN.out.1, hin.out.2.trans HN.out.2⟩
         case measure => simp [intOf]; omega
       · obtain rfl : j = k := by omega
         go_wp2_with fail
         go_ret
         obtain rfl : R = (0, s.delRun p j) := by rw [HR.out, HR2.out]; rfl
         exact ⟨rfl, hin.out⟩
theorem free_window (n : Nat) : ∀ (L : Nat) (ks : List Nat), ks.length ≤ L → ∀ a, ∃ t, a ≤ t ∧ t ≤ a + L * n ∧ ∀ k, k < n → t + k ∉ ks
 | 0, ks, hl, a => ⟨a, Nat.le_refl _, by omega, fun k _ => by
  have : ks = [] := List.length_eq_zero_iff.1 (by omega)
  rw [this]; simp⟩
 | L + 1, ks, hl, a => by
  by_cases h : ∀ k, k < n → a + k ∉ ks
  · exact ⟨a, Nat.le_refl _, by omega, h⟩
  · have h2 : ∃ k, k < n ∧ a + k ∈ ks := by
     refine Classical.byContradiction fun hn => h fun k hk hm => hn ⟨k, hk, hm⟩
    obtain ⟨k, hk, hm⟩ := h2
    obtain ⟨t, h1, h3, h4⟩ := free_window n L (ks.filter fun q => q ≠ a + k) (by
     have : (ks.filter fun q => decide (q ≠ a + k)).length < ks.length := by
      refine List.length_filter_lt_length_iff_exists.2 ⟨a + k, hm, by simp⟩
     omega) (a + k + 1)
    refine ⟨t, by omega, by rw [Nat.add_mul]; omega, fun j hj hin => ?_⟩
    exact h4 j hj (List.mem_filter.2 ⟨hin, by simp; omega⟩)
theorem firstRun_eq {s : Slab} {n t : Nat} (ht : s.run n t = true) : ∀ (f p : Nat), p ≤ t → t < p + f → (∀ g, p ≤ g → g < t → s.run n g = false) → s.firstRun n f p = t
 | 0, p, h1, h2, _ => by omega
 | f + 1, p, h1, h2, h3 => by
  unfold Slab.firstRun
  by_cases e : p = t
  · rw [e, ht, if_pos rfl]
  · rw [h3 p (Nat.le_refl _) (by omega)]
    exact firstRun_eq ht f (p + 1) (by omega) (by omega) fun g hg hg2 => h3 g (by omega) hg2
theorem addRun_keys {s : Slab} {p q : Nat} : ∀ {n : Nat}, q ∈ (s.addRun p n).keys ↔ q ∈ s.keys ∨ (p ≤ q ∧ q < p + n)
 | 0 => by
  show q ∈ s.keys ↔ _
  constructor
  · exact fun h => Or.inl h
  · rintro (h | h)
    · exact h
    · omega
 | n + 1 => by
  show q ∈ ((s.addRun p n).add (p + n)).keys ↔ _
  rw [keys_add, mem_insK, addRun_keys]
  constructor
  · rintro (h | h | h)
    · exact Or.inr (by omega)
    · exact Or.inl h
    · exact Or.inr (by omega)
  · rintro (h | h)
    · exact Or.inr (Or.inl h)
    · by_cases e : q = p + n
      · exact Or.inl e
      · exact Or.inr (Or.inr (by omega))
theorem addRun_length (s : Slab) (p : Nat) : ∀ n, (s.addRun p n).pages.length = s.pages.length + n
 | 0 => rfl
 | n + 1 => by
  show (ins _ _ _).length = _
  rw [length_ins, addRun_length s p n]
  omega
theorem addRun_quota (s : Slab) (p : Nat) : ∀ n, (s.addRun p n).quota = s.quota
 | 0 => rfl
 | n + 1 => addRun_quota s p n
theorem zrow_lit : (zeros.map fun v : Nat => Value.int .u64 v).toArray = #[.int .u64 0, .int .u64 0, .int .u64 0, .int .u64 0, .int .u64 0, .int .u64 0, .int .u64 0, .int .u64 0, .int .u64 0, .int .u64 0, .int .u64 0, .int .u64 0, .int .u64 0, .int .u64 0, .int .u64 0, .int .u64 0, .int .u64 0, .int .u64 0, .int .u64 0, .int .u64 0, .int .u64 0, .int .u64 0, .int .u64 0, .int .u64 0, .int .u64 0, .int .u64 0, .int .u64 0, .int .u64 0, .int .u64 0, .int .u64 0, .int .u64 0, .int .u64 0, .int .u64 0, .int .u64 0, .int .u64 0, .int .u64 0, .int .u64 0, .int .u64 0, .int .u64 0, .int .u64 0, .int .u64 0, .int .u64 0, .int .u64 0, .int .u64 0, .int .u64 0, .int .u64 0, .int .u64 0, .int .u64 0, .int .u64 0, .int .u64 0, .int .u64 0, .int .u64 0, .int .u64 0, .int .u64 0, .int .u64 0, .int .u64 0, .int .u64 0, .int .u64 0, .int .u64 0, .int .u64 0, .int .u64 0, .int .u64 0, .int .u64 0, .int .u64 0] := by kernel_rfl
theorem SlabOn.drewN {w : World} {pa pm : Nat} {s : Slab} {Y : Nat → Prop} {blk : Nat → Nat} (h : SlabOn w pa pm s Y blk) (n : Nat) : SlabOn (w.drewN n) pa pm s Y blk :=
 ⟨h.wf, h.hd, h.map, h.pg, h.inj, h.ya, h.ym, h.yp, h.yl⟩
theorem least_run {s : Slab} {n : Nat} : ∀ t, s.run n t = true → ∃ t', t' ≤ t ∧ s.run n t' = true ∧ ∀ g, g < t' → s.run n g = false := by
 intro t
 induction t using Nat.strongRecOn with
 | _ t ih =>
  intro h
  by_cases hg : ∀ g, g < t → s.run n g = false
  · exact ⟨t, Nat.le_refl _, h, hg⟩
  · have : ∃ g, g < t ∧ s.run n g = true := by
     refine Classical.byContradiction fun hn => hg fun g hlt => ?_
     cases hr : s.run n g with
     | false => rfl
     | true => exact absurd ⟨g, hlt, hr⟩ hn
    obtain ⟨g, hlt, hr⟩ := this
    obtain ⟨t', h1, h2, h3⟩ := ih g hlt hr
    exact ⟨t', by omega, h2, h3⟩
theorem slab_grant {w : World} {pa pm : Nat} {s : Slab} {Y : Nat → Prop} {blk : Nat → Nat} (h : SlabOn w pa pm s Y blk) (n : Nat) (hn : n ≤ 100) :
 Calls Tryz.prog 113 #[PV pa, .int .i64 n] w fun e w' => e = .returned (.tuple #[.int .i64 ((s.grant n).1.1 : Nat), .int .i64 ((s.grant n).1.2 : Nat)]) ∧ (∃ blk', SlabOn w' pa pm (s.grant n).2 Y blk') ∧ Keep Y w w' := by
 have c0 := h.cells.1
 have c1 := h.cells.2
 have hno := Lib.hid (slab_none h)
 obtain ⟨R, hR⟩ : ∃ R, s.grant n = R := ⟨_, rfl⟩
 by_cases hg : n < 1
 · have he : s.grant n = ((0, 2), s) := by unfold Slab.grant; rw [if_pos (Or.inl hg)]
   rw [hR] at he ⊢
   have HR := Lib.hid he
   have H := Lib.hid h
   clear h he hR
   go_enter Tryz.func113, Tryz.ntmps113
   go_wp2_with fail
   go_step3
   go_wp2_with fail
   refine hno.out.mono ?_
   rintro e w' ⟨rfl, rfl⟩
   go_wp2_with fail
   go_ret2
   obtain rfl : R = ((0, 2), s) := HR.out
   exact ⟨rfl, ⟨_, H.out⟩, Keep.refl _ _⟩
 · have hroom := h.wf.room
   have hquota := h.wf.quota
   have hL : s.pages.length ≤ 4096 := by omega
   have hlen : ∀ (q : Nat) (ty : TypeId), (Builtin.len_ #[169] ty #[.map (some pm)]).run Tryz.prog (w.drewN q) = .ok (.int .i64 (s.pages.length : Nat)) (w.drewN q) := fun q ty => by
    have := World.ownsMap.len (w := w.drewN q) h.map Tryz.underlying169 ty
    rw [pgD_size, keys_length] at this
    exact this
   have hn1 : ¬ (n < 1 ∨ 4096 < n) := by omega
   by_cases hq : s.quota < (s.pages.length + n) * 64
   · have he : s.grant n = ((0, 3), s) := by unfold Slab.grant; rw [if_neg hn1, if_pos hq]
     rw [hR] at he ⊢
     have HR := Lib.hid he
     have H := Lib.hid h
     have hq2 : (s.quota : Int) < ((s.pages.length : Int) + n) * 64 := by omega
     generalize s.pages.length = L at *
     generalize s.quota = Q at *
     have hs1 : IntKind.i64.wrap ((L : Int) + n) = (L : Int) + n := IntWalk.i64_in _ (by omega)
     have hs2 : IntKind.i64.wrap (((L : Int) + n) * 64) = ((L : Int) + n) * 64 := IntWalk.i64_in _ (by omega)
     have hn2 : 1 ≤ n := by omega
     clear h he hR hq hn1 hg
     go_enter Tryz.func113, Tryz.ntmps113
     go_wp2_with fail
     go_step3
     go_wp2_with fail
     refine hno.out.mono ?_
     rintro e w' ⟨rfl, rfl⟩
     go_wp2_with fail
     go_quiet (fail)
     clear hs1 hs2
     go_wp2_with fail
     try rw [Exit.noGoto_ret]
     go_ret2
     obtain rfl : R = ((0, 3), s) := HR.out
     exact ⟨rfl, ⟨_, H.out.drewN _⟩, Keep.drewN _ _ _⟩
   · have hq1 : (s.pages.length + n) * 64 ≤ s.quota := by omega
     obtain ⟨t, _, ht1, ht2⟩ := free_window n s.pages.length s.keys (by rw [keys_length]; exact Nat.le_refl _) 0
     have hLn : s.pages.length * n ≤ 4096 * 100 := Nat.mul_le_mul hL hn
     have ht : t ≤ 409600 := by omega
     have hfull : ∃ t', t' ≤ t ∧ s.run n t' = true ∧ ∀ g, g < t' → s.run n g = false := by
      exact least_run t (run_iff.2 ht2)
     obtain ⟨t', ht3, ht4, ht5⟩ := hfull
     have hfr : s.firstRun n (s.pages.length * n + 1) 0 = t' := firstRun_eq ht4 _ 0 (Nat.zero_le _) (by omega) fun g _ hg => ht5 g hg
     have he : s.grant n = ((t', 0), s.addRun t' n) := by unfold Slab.grant; rw [if_neg hn1, if_neg hq, hfr]
     rw [hR] at he ⊢
     have HR := Lib.hid he
     have H := Lib.hid h
     have HT := kq2 ht4 ht5
     have hq2 : ¬ (s.quota : Int) < ((s.pages.length : Int) + n) * 64 := by omega
     have HQ := Lib.hid hq1
     have hlook := Lib.hid (fun k (hk : k ≤ 1000000) => h.look k (by omega))
     generalize hLe : s.pages.length = L at *
     generalize hQe : s.quota = Q at *
     have hs1 : IntKind.i64.wrap ((L : Int) + n) = (L : Int) + n := IntWalk.i64_in _ (by omega)
     have hs2 : IntKind.i64.wrap (((L : Int) + n) * 64) = ((L : Int) + n) * 64 := IntWalk.i64_in _ (by omega)
     have hn2 : 1 ≤ n := by omega
     have HLe := kq2 hLe hQe
     clear h he hR hq hn1 hg ht4 ht5 hq1 hfr hLn ht2 ht1 hLe hQe
     go_enter Tryz.func113, Tryz.ntmps113
     go_wp2_with fail
     go_step3
     go_wp2_with fail
     refine hno.out.mono ?_
     rintro e w' ⟨rfl, rfl⟩
     go_wp2_with fail
     go_quiet (fail)
     clear hs1 hs2
     go_wp2_with fail
     go_step3
     go_wp2_with fail
     go_loopg [6, 7] t' (fun g i _ wr => ∃ f : Nat, f + g = t' ∧ i = .int .i64 f ∧ wr = w.drewN nq)
     case atStart => exact ⟨0, by omega, rfl, rfl⟩
     case round =>
      obtain ⟨f, hf, rfl, rfl⟩ := hrel
      go_wp2_with fail
      go_loopg [6, 7, 34] n (fun g x _ i wr => x = .int .i64 f ∧ ∃ k : Nat, k + g = n ∧ i = .int .i64 k ∧ wr = w.drewN nq ∧ Hid (∀ j, j < k → f + j ∉ s.keys))
      case atStart => exact ⟨rfl, 0, by omega, rfl, rfl, fun j hj => absurd hj (by omega)⟩
      case round =>
       obtain ⟨rfl, k, hk, rfl, rfl, hin⟩ := hrel
       by_cases hlt : k < n
       · have hl := (H.out.drewN nq).look (f + k) (by omega)
         rw [show ((f + k : Nat) : Int) = (f : Int) + k from by simp] at hl
         by_cases hm : f + k ∈ s.keys
         · have hv : pgV s.keys blk (f + k) = PV (blk (f + k)) := by unfold pgV; rw [if_pos hm]
           rw [hv] at hl
           have hft : f + k + 1 ≤ t' := by
            refine Classical.byContradiction fun hc => ?_
            have := run_iff.1 HT.out.1 (f + k - t') (by omega)
            rw [show t' + (f + k - t') = f + k by omega] at this
            exact this hm
           generalize blk (f + k) = b at *
           clear hv hm
           go_wp2_with fail
           go_roundg (t' - (f + (k + 1)))
           case rel => exact ⟨f + (k + 1), by omega, by go_num, rfl⟩
           case measure => omega
         · have hv : pgV s.keys blk (f + k) = .pointer none := by unfold pgV; rw [if_neg hm]
           rw [hv] at hl
           have HM := Lib.hid hm
           clear hv hm
           go_wp2_with fail
           go_roundg (n - (k + 1))
           case rel => exact ⟨rfl, k + 1, by omega, by go_num, rfl, fun j hj => by
            by_cases e : j = k
            · rw [e]; exact HM.out
            · exact hin.out j (by omega)⟩
           case measure => omega
       · obtain rfl : k = n := by omega
         have hft : f = t' := by
          by_cases e : f = t'
          · exact e
          · have h1 := HT.out.2 f (by omega)
            rw [run_iff.2 hin.out] at h1
            cases h1
         subst hft
         clear hlt hin
         go_wp2_with fail
         have hrt : f + k ≤ 1048576 := by omega
         go_loopw [8, 52] (fun _ i wr => ∃ j : Nat, j ≤ k ∧ i = .int .i64 j ∧ Hid ((∃ blk', SlabOn wr pa pm (s.addRun f j) Y blk') ∧ Keep Y w wr)) (fun _ i _ => k - (intOf i).toNat)
         case atStart => exact ⟨0, by omega, rfl, ⟨_, H.out.drewN nq⟩, Keep.drewN _ _ _⟩
         case round =>
          obtain ⟨j, hj, rfl, hin⟩ := hrel
          obtain ⟨⟨blk', hS⟩, hK⟩ := hin
          have c1 := hS.cells.2
          by_cases hlt : j < k
          · have hnk : f + j ∉ (s.addRun f j).keys := fun hc => by
             rcases addRun_keys.1 hc with hc | hc
             · exact run_iff.1 HT.out.1 j hlt hc
             · omega
            obtain ⟨w1, hrun, hS1, hK1⟩ := hS.more hnk (by omega) (by
             rw [addRun_length, addRun_quota]
             have h1 := HQ.out
             have h2 := HLe.out.1
             have h3 := HLe.out.2
             omega)
            rw [show ((f + j : Nat) : Int) = (f : Int) + j from by simp, zrow_lit] at hrun
            have HN := kq2 hS1 (hK.trans hK1)
            clear hS1 hK1 hK hS
            go_wp2_with fail
            go_roundw
            case rel => exact ⟨j + 1, by omega, by go_num, ⟨_, HN.out.1⟩, HN.out.2⟩
            case measure => simp [intOf]; omega
          · obtain rfl : j = k := by omega
            have HE := kq2 (Exists.intro blk' hS) hK
            clear hS hK
            go_wp2_with fail
            try rw [Exit.noGoto_ret]
            go_ret2
            obtain rfl : R = ((f, 0), s.addRun f j) := HR.out
            exact ⟨rfl, HE.out⟩
end Go.Proofs.YtcibkdbpicledaaGreatDoor
namespace Go.Proofs.YtcibkdbpicledaaGreatDoor
open Go.RowKit Go.BigFrame Go.Maps Go.WideMaps Lf
open Go.Sort Go.Shelf
theorem sortsA (m : Nat) : AnyZI.SortsIn Tryz.prog Tryz.sortedA_ren Fence.wide m :=
 ⟨fun blk off cap ss W hH hblk hsz => callsIn_wide.2 (AnyM.slices_Sort_int Tryz.sortA blk off cap ss W hH hblk hsz),
  fun p cap W => callsIn_wide.2 (AnyM.slices_Sort_int_none Tryz.sortA p cap W)⟩
def IntRow (w : World) (B : Nat) (v : Value) (ks : List Nat) : Prop :=
 ∃ A c, v = .slice A ks.length c ∧ ∀ (i : Nat) (h : i < ks.length), ∃ b o : Nat, A = some ⟨b, o, none⟩ ∧ B ≤ b ∧ b < w.heap.size ∧ w.cell? ⟨b, o + i, none⟩ = some (.int .i64 ks[i])
theorem intRow_of_owns {w : World} {B : Nat} {v : Value} {ks : List Nat} (h : w.ownsRow B 3 1 v ks.length (ks.map fun k : Nat => Value.int .i64 k)) : IntRow w B v ks := by
 rcases h.2 with ⟨h0, hx⟩ | ⟨g, cap, cur, hv, hg, hb, h1, h2, h3, h4⟩
 · have : ks = [] := by simpa using hx
   subst this
   exact ⟨none, 0, by rw [h0]; rfl, fun i hi => absurd hi (by simp)⟩
 · refine ⟨_, _, hv, fun i hi => ⟨g, 0, rfl, hg, (gl hb), ?_⟩⟩
   have hlt : i < cur.size := by omega
   rw [cell_of_block hb]
   have e : (cur.toList.take (ks.length * 1))[i]? = (ks.map fun k : Nat => Value.int .i64 k)[i]? := by rw [h4]
   rw [List.getElem?_take_of_lt (by omega)] at e
   rw [Nat.zero_add, ← Array.getElem?_toList, e]
   simp [List.getElem?_eq_getElem hi]
theorem IntRow.mono {w : World} {B B' : Nat} {v : Value} {ks : List Nat} (h : IntRow w B v ks) (hB : B' ≤ B) : IntRow w B' v ks := by
 obtain ⟨A, c, h1, h2⟩ := h
 refine ⟨A, c, h1, fun i hi => ?_⟩
 obtain ⟨b, o, k1, k2, k3⟩ := h2 i hi
 exact ⟨b, o, k1, by omega, k3⟩
theorem sorted_keys {s : Slab} (h : SlabWF s) {ss : List Int} {blk : Nat → Nat} (hp : ss.Perm (intKeys (pgD s.keys blk))) : ss.length = s.keys.length ∧ (ss.mergeSort fun x y => decide (x ≤ y)).map encZ = s.keys.map fun k : Nat => Value.int .i64 k := by
 have hk : intKeys (pgD s.keys blk) = s.keys.map fun k : Nat => (k : Int) := by
  show ((s.keys.map fun p : Nat => (Lit.int .i64 (p : Int), DataW.lit (H := Unit) (.int .i64 (blk p)))).map fun p => Go.intOf p.1) = _
  rw [List.map_map]
  rfl
 rw [hk] at hp
 refine ⟨by rw [hp.length_eq, List.length_map], ?_⟩
 have e1 : (ss.mergeSort fun x y => decide (x ≤ y)) = (s.keys.map fun k : Nat => (k : Int)).mergeSort fun x y => decide (x ≤ y) := mergeSort_of_perm_i hp
 have e2 : ((s.keys.map fun k : Nat => (k : Int)).mergeSort fun x y => decide (x ≤ y)) = s.keys.map fun k : Nat => (k : Int) := by
  refine List.mergeSort_of_pairwise ?_
  rw [List.pairwise_map]
  refine h.sorted.imp fun {a b} hab => ?_
  simp only [decide_eq_true_eq]
  omega
 rw [e1, e2, List.map_map]
 rfl
theorem slab_pages {w : World} {pa pm : Nat} {s : Slab} {Y : Nat → Prop} {blk : Nat → Nat} (h : SlabOn w pa pm s Y blk) :
 Calls Tryz.prog 132 #[PV pa] w fun e w' => ∃ v, e = .returned v ∧ IntRow w' w.heap.size v s.keys ∧ Below w.heap.size w w' := by
 refine (callsIn_wide (n := 6)).1 ?_
 have hbl := h.map.lt
 have c1 := h.cells.2
 have hno : CallsIn Fence.wide 5 Tryz.prog 142 #[PV pa] w _ := callsIn_wide.2 (slab_none h)
 have hmax : Maps.size (pgD s.keys blk) ≤ maxLen := by
  rw [pgD_size, keys_length]; have := h.wf.room; have := h.wf.quota; unfold maxLen; omega
 have hbytes : Maps.size (pgD s.keys blk) * 8 ≤ 140737488355328 := by
  rw [pgD_size, keys_length]; have := h.wf.room; have := h.wf.quota; omega
 have hseq : SeqGives Fence.wide 2 Tryz.prog 175 #[.pointer (some ⟨w.heap.size, 0, none⟩)] encZ (fun ss => ss.Perm (intKeys (pgD s.keys blk))) (Maps.size (pgD s.keys blk)) (w.alloc (.cells #[.map (some pm)] 169)) :=
  AnyZI.keys_gives (ρ := Tryz.keysA_ren) { Tryz.keysA with } Fence.wide _ trivial rfl (by omega) w.heap.size pm s.pages.length (pgD s.keys blk) _ (by simp) (by simp) (by
   obtain ⟨es, clock, hb, Ft, hs, hD⟩ := h.map
   exact ⟨es, clock, (Below.heap_alloc _ _ pm hbl).trans hb, Ft, hs, hD⟩)
 have cK : ∀ mb W, CallsIn Fence.wide 5 Tryz.prog 154 #[.map mb] W fun e w' => e = .returned (.func (.func 175) #[] #[.pointer (some ⟨W.heap.size, 0, none⟩)]) ∧ w' = W.alloc (.cells #[.map mb] 169) := fun mb W => AnyZI.keys_in Tryz.keysA Fence.wide 5 trivial rfl mb W
 have cS := AnyZI.sorted_in Tryz.sortedA Fence.wide 5 trivial trivial trivial trivial rfl (by omega) (sortsA _) (enters_of Tryz.func174 (by kernel_rfl) rfl) 175 #[.pointer (some ⟨w.heap.size, 0, none⟩)] trivial (enters_of Tryz.func175 (by kernel_rfl) rfl) _ _ hmax hbytes _ hseq
 change CallsIn _ _ Tryz.prog 153 _ _ _ at cS
 have hfK : Fence.wide.fn 154 := trivial
 have hfS : Fence.wide.fn 153 := trivial
 have hfN : Fence.wide.fn 142 := trivial
 have HS := Lib.hid h
 clear h hmax hbytes hseq
 refine callsIn_of_wp Tryz.func132 rfl trivial ?_ rfl
 simp only [Tryz.ntmps132, List.size_toArray, List.length_cons, List.length_nil, Nat.reduceAdd, Nat.reduceSub, Array.replicate_succ, Array.replicate_zero, List.push_toArray, List.append_toArray, List.nil_append, List.cons_append]
 gi_wp2_with (first
  | (gi_at_call 142; refine hno.mono ?_; rintro e w' ⟨rfl, rfl⟩)
  | (gi_at_call 154; refine (cK _ _).mono ?_; rintro e w' ⟨rfl, rfl⟩)
  | (gi_at_call 153; refine cS.mono ?_; rintro e w' ⟨v, ss, rfl, hS, hrow, hnil, hb⟩))
 go_ret
 obtain ⟨hl, hm⟩ := sorted_keys HS.out.wf hS
 rw [hm, hl] at hrow
 exact ⟨v, rfl, (intRow_of_owns hrow).mono (by simp), ((Below.refl _ w).alloc (Nat.le_refl _) _).trans (hb.mono (by simp))⟩
end Go.Proofs.YtcibkdbpicledaaGreatDoor
namespace Go.Proofs.YtcibkdbpicledaaGreatDoor.Qt
open Go Go.RowKit
section
variable {P : Program} {ops : Array Oper} {md : Region.Mode} {C : World → Prop}
def wpAnyQL (P : Program) (md : Region.Mode) (ops : Array Oper) (C : World → Prop) (n : Nat) (L : Array Bool → Act → Prop) : Nat → Array Bool → Act → Prop
 | 0, listed, a => L listed a
 | f + 1, listed, a =>
  Region.ready md ops listed ≠ [] ∧ ∀ i ∈ Region.ready md ops listed, i < n ∧ qOp P ops C i (wpAnyQL P md ops C n L f (listed.setIfInBounds i true)) a
theorem wpAny_of_head {n g : Nat} {L : Array Bool → Act → Prop} {Q' : Exit → Act → World → Prop} (hL : ∀ listed a w, C w → L listed a → wpAny P md ops Q' g listed a w) :
 ∀ (f : Nat) (listed : Array Bool) (a : Act) (w : World), C w → wpAnyQL P md ops C n L f listed a → wpAny P md ops Q' (f + g) listed a w
 | 0, listed, a, w, hC, h => by rw [Nat.zero_add]; exact hL _ _ _ hC h
 | f + 1, listed, a, w, hC, h => by
  rw [show f + 1 + g = (f + g) + 1 by omega]
  exact ⟨fun h0 => absurd h0 h.1, fun i hi => wpOp_of_qOp hC (fun a' w' hC' h' => wpAny_of_head hL f _ a' w' hC' h') (h.2 i hi).2⟩
theorem wpAnyQL_first {n i : Nat} {oi : Oper} {v : Value} {L : Array Bool → Act → Prop} (hi : ops[i]? = some oi) (hsel : ∀ (j : Nat) (o : Oper) cs b, ops[j]? = some o → o.op ≠ .select cs b)
 (hs : Region.sinkB md ops n = true) (hc : Region.chainB md ops n = true) (hn : n < ops.size) (hin : i < n)
 (hdone : ∀ listed a, L listed a → ∀ j ∈ Region.ready md ops listed, n ≤ j) :
 ∀ (f : Nat) (listed : Array Bool) (a : Act), HeadInv md ops n listed →
  (∀ j oj, ops[j]? = some oj → j ≠ i → listed.getD j true = false → (∀ e ∈ oj.after, Region.binds md e = true → e.on ≠ i) → oi.apart ops oj = true) →
  i ∈ Region.ready md ops listed → YieldsIn P ops C oi v a →
  wpAnyQL P md ops C n L f (listed.setIfInBounds i true) (a.put oi.dst v) → wpAnyQL P md ops C n L (f + 1) listed a := by
 intro f
 induction f with
 | zero =>
  intro listed a inv _ hr hy H
  have hun := (mem_ready.1 hr).1
  refine ⟨fun h => (by rw [h] at hr; cases hr), fun j hj => ?_⟩
  have hjn : j < n := by
   rcases Nat.lt_or_ge j n with h | h
   · exact h
   · exact absurd hj (tail_waits hs hc hn inv _ i rfl hin hun j h)
  refine ⟨hjn, ?_⟩
  by_cases hji : j = i
  · subst hji; exact hy.qOp hi H
  · have := hdone _ _ H j (ready_mono hj hji)
    omega
 | succ f ih =>
  intro listed a inv hfree hr hy H
  have hun := (mem_ready.1 hr).1
  refine ⟨fun h => (by rw [h] at hr; cases hr), fun j hj => ?_⟩
  have hjn : j < n := by
   rcases Nat.lt_or_ge j n with h | h
   · exact h
   · exact absurd hj (tail_waits hs hc hn inv _ i rfl hin hun j h)
  refine ⟨hjn, ?_⟩
  by_cases hji : j = i
  · subst hji; exact hy.qOp hi H
  · have h1 := (H.2 j (ready_mono hj hji)).2
    obtain ⟨hjun, oj, hoj, hall⟩ := mem_ready.1 hj
    have hnot : ∀ e ∈ oj.after, Region.binds md e = true → e.on ≠ i := fun e he hb heq => by
     have h1 := hall e he hb
     rw [heq, getD_both hun] at h1
     cases h1
    have h2 := qOp_put hoj (hfree j oj hoj hji hjun hnot) (fun cs b => hsel i oi cs b hi) (fun cs b => hsel j oj cs b hoj) hy h1
    have hfree' : ∀ k ok, ops[k]? = some ok → k ≠ i → (listed.setIfInBounds j true).getD k true = false →
     (∀ e ∈ ok.after, Region.binds md e = true → e.on ≠ i) → oi.apart ops ok = true := fun k ok hk hki hun hno => by
     refine hfree k ok hk hki ?_ hno
     by_cases hjk : j = k
     · subst hjk; exact hjun
     · rw [getD_set_ne true hjk] at hun; exact hun
    refine qOp_mono (fun a' h3 => ih (listed.setIfInBounds j true) a' (inv.set hj hjn) hfree' (ready_mono hr (Ne.symm hji)) h3.1 ?_) h2
    rw [Array.setIfInBounds_comm _ _ hji]
    exact h3.2
theorem wpAnyQL_lex {n g : Nat} {Lq : Act → Prop} (hsel : Region.noSelect ops = true) (hs : Region.sinkB md ops n = true) (hc : Region.chainB md ops n = true) (hn : n < ops.size) :
 ∀ (l : List Oper) (k : Nat) (listed : Array Bool) (a : Act), (∀ j, j < l.length → l[j]? = ops[k + j]?) → k + l.length = n → HeadInv md ops n listed →
 Region.lexHead md ops g l.length k listed = true → wpQuiet P ops C Lq l a →
 wpAnyQL P md ops C n (fun listed' a' => Region.seqB md ops g n listed' = true ∧ Lq a') l.length listed a
 | [], k, listed, a, _, hk, _, hB, h => by
  have : k = n := by simpa using hk
  subst this
  exact ⟨by simpa [Region.lexHead] using hB, h⟩
 | o :: l, k, listed, a, hl, hk, inv, hB, h => by
  have h0 : ops[k]? = some o := by simpa using (hl 0 (by simp)).symm
  simp only [List.length_cons, Region.lexHead, Bool.and_eq_true] at hB
  obtain ⟨⟨hr, hf⟩, hB'⟩ := hB
  have hkn : k < n := by simp only [List.length_cons] at hk; omega
  have hr' : k ∈ Region.ready md ops listed := by simpa using hr
  have hst : qOp P ops C k (wpQuiet P ops C Lq l) a := by unfold qOp; simp only [h0]; exact h
  obtain ⟨v, hy, hK⟩ := yieldsIn_of_qOp h0 hst
  exact wpAnyQL_first h0 (Region.noSelect_spec hsel) hs hc hn hkn (fun listed' a' hL => seqB_ready hL.1) l.length listed a inv (Region.free_spec h0 hf) hr' hy
   (wpAnyQL_lex hsel hs hc hn l (k + 1) _ _ (fun j hj => by have := hl (j + 1) (by simp; omega); simpa [Nat.add_assoc, Nat.add_comm 1 j] using this) (by simp only [List.length_cons] at hk; omega) (inv.set hr' hkn) hB' hK)
end
end Qt
theorem wp_region_quiet_tail {P : Program} {C : World → Prop} {id : Nat} {Q : Exit → Act → World → Prop} {a : Act} {w : World} {l : List Oper} (n : Nat) (hm : P.follows .mixedOrders = true) (hB : Region.lexTailB .any l.toArray n = true) (hC : C w.drew)
 (h : wpQuiet P l.toArray C (fun a' => ∀ w', C w' → wpList P l.toArray Q (l.drop n) a' w') (l.take n) a) : (Code.region id l.toArray true).wp P Q a w := by
 simp only [Region.lexTailB, Bool.and_eq_true, decide_eq_true_eq] at hB
 obtain ⟨⟨⟨⟨hsel, hn⟩, hs⟩, hc⟩, hlex⟩ := hB
 have hn' : n < l.length := by simpa using hn
 have htl : (l.take n).length = n := by simp; omega
 have hdl : (l.drop n).length = l.toArray.size - n := by simp
 have inv0 : HeadInv .any l.toArray n (Array.replicate l.toArray.size false) :=
  ⟨by simp, fun j oj _ hl => (by rw [getD_replicate_false] at hl; cases hl), fun t _ ht => getD_in (by simpa using ht) (getD_replicate_false _ _)⟩
 have H := Qt.wpAnyQL_lex (md := .any) (g := l.toArray.size - n) hsel hs hc hn (l.take n) 0 _ a (fun j hj => by
  have hj' : j < n := by rw [htl] at hj; exact hj
  simp [hj']) (by simpa using htl) inv0 (by rw [htl]; exact hlex) h
 refine wp_region_any hm ?_
 have := Qt.wpAny_of_head (Q' := Q) (g := l.toArray.size - n) (fun listed a' w' hC' hL => by
  have := wpAny_of_seq (md := .any) (Q' := Q) (l.drop n) n listed a' w' (fun j => by simp [List.getElem?_drop]) (by rw [hdl]; exact hL.1) (hL.2 w' hC')
  rwa [hdl] at this) _ _ _ _ (show C { w with drawn := w.drawn + 1 } from hC) H
 rw [htl, show n + (l.toArray.size - n) = l.toArray.size by omega] at this
 exact this
