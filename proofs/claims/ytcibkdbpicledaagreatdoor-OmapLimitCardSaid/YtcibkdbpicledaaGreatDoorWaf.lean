import Derived.Test.YtcibkdbpicledaaGreatDoorWae
import Derived.Laws.AppendOwn
import Derived.OwnWalk
import Derived.Maps.AppendAt
import Derived.Lib.ItoaWalk
set_option maxRecDepth 100000
set_option maxHeartbeats 1600000
namespace Go.Proofs.YtcibkdbpicledaaGreatDoor
open Go.RowKit Go.BigFrame Go.Maps Go.WideMaps Lf
abbrev tabB : Nat := 0
theorem SlabOn.of_keep {w w' : World} {pa pm : Nat} {s : Slab} {Y : Nat → Prop} {blk : Nat → Nat} (h : SlabOn w pa pm s Y blk) (hs : w.heap.size ≤ w'.heap.size) (hb : ∀ k, k < w.heap.size → (k = pa ∨ k = pm ∨ ∃ p ∈ s.keys, k = blk p) → w'.heap[k]? = w.heap[k]?) : SlabOn w' pa pm s Y blk where
 wf := h.wf
 hd := by rw [hb pa (gl h.hd) (Or.inl rfl)]; exact h.hd
 map := ownsMap_of_block h.map (hb pm h.map.lt (Or.inr (Or.inl rfl)))
 pg := fun x hx => by
  have h1 := h.pg x hx
  rw [hb _ (gl h1) (Or.inr (Or.inr ⟨x.1, keys_mem.2 ⟨_, hx⟩, rfl⟩))]
  exact h1
 inj := h.inj
 ya := h.ya
 ym := h.ym
 yp := h.yp
 yl := fun k hk => Nat.lt_of_lt_of_le (h.yl k hk) hs
theorem SlabOn.below {w w' : World} {pa pm : Nat} {s : Slab} {Y : Nat → Prop} {blk : Nat → Nat} (h : SlabOn w pa pm s Y blk) (hb : Below w.heap.size w w') : SlabOn w' pa pm s Y blk :=
 h.of_keep hb.size fun k hk _ => hb.block k hk
structure HeapOn (w : World) (ph pa pm : Nat) (s : Slab) (Y : Nat → Prop) : Prop where
 slab : ∃ blk, SlabOn w pa pm s Y blk
 hp : w.heap[ph]? = some (.cells #[PV pa] 177 (0, 0))
 yh : Y ph
 tab : Tab64 w
 yt : Y tabB
theorem HeapOn.yl {w : World} {ph pa pm : Nat} {s : Slab} {Y : Nat → Prop} (h : HeapOn w ph pa pm s Y) : ∀ k, Y k → k < w.heap.size := by
 obtain ⟨blk, hs⟩ := h.slab
 exact hs.yl
theorem HeapOn.wf {w : World} {ph pa pm : Nat} {s : Slab} {Y : Nat → Prop} (h : HeapOn w ph pa pm s Y) : SlabWF s := by
 obtain ⟨blk, hs⟩ := h.slab
 exact hs.wf
theorem HeapOn.step {w w' : World} {ph pa pm : Nat} {s s' : Slab} {Y : Nat → Prop} (h : HeapOn w ph pa pm s Y) (hs : ∃ blk, SlabOn w' pa pm s' Y blk) (hk : Keep Y w w') : HeapOn w' ph pa pm s' Y where
 slab := hs
 hp := by rw [hk.block ph h.yh]; exact h.hp
 yh := h.yh
 tab := h.tab.of_block (hk.block _ h.yt)
 yt := h.yt
theorem HeapOn.below {w w' : World} {ph pa pm : Nat} {s : Slab} {Y : Nat → Prop} (h : HeapOn w ph pa pm s Y) (hb : Below w.heap.size w w') : HeapOn w' ph pa pm s Y := by
 obtain ⟨blk, hs⟩ := h.slab
 exact h.step ⟨blk, hs.below hb⟩ (Keep.of_below hb hs.yl)
theorem HeapOn.keep {w w' : World} {ph pa pm : Nat} {s : Slab} {Y : Nat → Prop} (h : HeapOn w ph pa pm s Y) (hb : Below w.heap.size w w') : Keep Y w w' := Keep.of_below hb h.yl
theorem HeapOn.cell {w : World} {ph pa pm : Nat} {s : Slab} {Y : Nat → Prop} (h : HeapOn w ph pa pm s Y) : w.cell? ⟨ph, 0, none⟩ = some (PV pa) := by rw [cell_of_block h.hp]; rfl
theorem HeapOn.lt {w : World} {ph pa pm : Nat} {s : Slab} {Y : Nat → Prop} (h : HeapOn w ph pa pm s Y) : ph < w.heap.size := h.yl _ h.yh
theorem SlabOn.mono {w : World} {pa pm : Nat} {s : Slab} {Y Z : Nat → Prop} {blk : Nat → Nat} (h : SlabOn w pa pm s Y blk) (hz : ∀ k, Z k → Y k) : SlabOn w pa pm s Z blk :=
 ⟨h.wf, h.hd, h.map, h.pg, h.inj, fun k => h.ya (hz _ k), fun k => h.ym (hz _ k), fun p hp k => h.yp p hp (hz _ k), fun k hk => h.yl k (hz k hk)⟩
abbrev And1 (Y : Nat → Prop) (b : Nat) : Nat → Prop := fun k => Y k ∨ k = b
theorem SlabOn.own {w : World} {pa pm : Nat} {s : Slab} {Y : Nat → Prop} {blk : Nat → Nat} (h : SlabOn w pa pm s Y blk) (o : Obj) : SlabOn (w.alloc o) pa pm s (And1 Y w.heap.size) blk := by
 have h' := h.below ((Below.refl _ w).alloc (Nat.le_refl _) o)
 have hpa := (gl h.hd)
 refine ⟨h'.wf, h'.hd, h'.map, h'.pg, h'.inj, ?_, ?_, ?_, ?_⟩
 · rintro (k | k)
   · exact h.ya k
   · omega
 · rintro (k | k)
   · exact h.ym k
   · have := h.map.lt; omega
 · rintro p hp (k | k)
   · exact h.yp p hp k
   · obtain ⟨l, hl⟩ := keys_mem.1 hp
     have := (gl (h.pg _ hl))
     simp only at this
     omega
 · rintro k (hk | hk)
   · have := h.yl k hk; simp; omega
   · simp; omega
theorem HeapOn.own {w : World} {ph pa pm : Nat} {s : Slab} {Y : Nat → Prop} (h : HeapOn w ph pa pm s Y) (o : Obj) : HeapOn (w.alloc o) ph pa pm s (And1 Y w.heap.size) := by
 have h' := h.below ((Below.refl _ w).alloc (Nat.le_refl _) o)
 obtain ⟨blk, hs⟩ := h.slab
 exact ⟨⟨blk, hs.own o⟩, h'.hp, Or.inl h.yh, h'.tab, Or.inl h.yt⟩
theorem HeapOn.mono {w : World} {ph pa pm : Nat} {s : Slab} {Y Z : Nat → Prop} (h : HeapOn w ph pa pm s Y) (hz : ∀ k, Z k → Y k) (h1 : Z ph) (h2 : Z tabB) : HeapOn w ph pa pm s Z := by
 obtain ⟨blk, hs⟩ := h.slab
 exact ⟨⟨blk, hs.mono hz⟩, h.hp, h1, h.tab, h2⟩
theorem HeapOn.drewN {w : World} {ph pa pm : Nat} {s : Slab} {Y : Nat → Prop} (h : HeapOn w ph pa pm s Y) (n : Nat) : HeapOn (w.drewN n) ph pa pm s Y := h.below ⟨rfl, rfl, rfl, Nat.le_refl _, fun _ _ => rfl⟩
theorem HeapOn.read {w : World} {ph pa pm : Nat} {s : Slab} {Y : Nat → Prop} (h : HeapOn w ph pa pm s Y) (a : Nat) (ha : a ≤ 4611686018427387904) :
 Calls Tryz.prog 102 #[PV pa, .int .i64 a] w fun e w' => e = .returned (.tuple #[.int .u64 (s.rd a : Nat), .int .i64 (s.err a : Nat)]) ∧ w = w' := by
 obtain ⟨blk, hs⟩ := h.slab
 exact slab_read hs a ha
theorem HeapOn.write {w : World} {ph pa pm : Nat} {s : Slab} {Y : Nat → Prop} (h : HeapOn w ph pa pm s Y) (a x : Nat) (ha : a ≤ 4611686018427387904) (hx : x < 18446744073709551616) :
 Calls Tryz.prog 95 #[PV pa, .int .i64 a, .int .u64 x] w fun e w' => e = .returned (.int .i64 (s.err a : Nat)) ∧ HeapOn w' ph pa pm (s.wr a x) Y ∧ Keep Y w w' := by
 obtain ⟨blk, hs⟩ := h.slab
 refine (slab_write hs a x ha hx).mono ?_
 rintro e w' ⟨h1, h2, h3⟩
 exact ⟨h1, h.step ⟨_, h2⟩ h3, h3⟩
theorem HeapOn.write' {w : World} {ph pa pm : Nat} {s : Slab} {Y : Nat → Prop} (h : HeapOn w ph pa pm s Y) (a x : Nat) {ai xi : Int} (ha : a ≤ 4611686018427387904) (hx : x < 18446744073709551616) (hai : ai = (a : Int)) (hxi : xi = (x : Int)) :
 Calls Tryz.prog 95 #[PV pa, .int .i64 ai, .int .u64 xi] w fun e w' => e = .returned (.int .i64 (s.err a : Nat)) ∧ HeapOn w' ph pa pm (s.wr a x) Y ∧ Keep Y w w' := by
 subst hai hxi
 exact h.write a x ha hx
theorem HeapOn.rd_lt {w : World} {ph pa pm : Nat} {s : Slab} {Y : Nat → Prop} (h : HeapOn w ph pa pm s Y) (a : Nat) : s.rd a < 18446744073709551616 := by
 obtain ⟨blk, hs⟩ := h.slab
 exact hs.rd_lt a
theorem heap_none {w : World} {ph pa pm : Nat} {s : Slab} {Y : Nat → Prop} (h : HeapOn w ph pa pm s Y) :
 Calls Tryz.prog 110 #[PV ph] w fun e w' => e = .returned (.bool false) ∧ w = w' := by
 have c1 := h.cell
 clear h
 go_enter Tryz.func110, Tryz.ntmps110
 go_wp2
 go_ret
 exact ⟨rfl, rfl⟩
def headV (x : Head) : Value := .agg #[.int .i64 x.kind, .int .i64 x.n, .int .u64 x.w]
theorem heap_get {w : World} {ph pa pm : Nat} {s : Slab} {Y : Nat → Prop} (h : HeapOn w ph pa pm s Y) (p : Nat) (hp : p ≤ 1048576) :
 Calls Tryz.prog 144 #[PV ph, .int .i64 p] w fun e w' => e = .returned (headV (getH s p)) ∧ Below w.heap.size w w' := by
 have c1 := h.cell
 have hlt := h.lt
 have r1 := fun W (hb : Below w.heap.size w W) => (h.below hb).read (p * 64) (by omega)
 have r2 := fun W (hb : Below w.heap.size w W) => (h.below hb).read (p * 64 + 1) (by omega)
 have l1 := h.rd_lt (p * 64)
 have he : getH s p = ⟨s.rd (p * 64) % 256, s.rd (p * 64) / 256, s.rd (p * 64 + 1)⟩ := rfl
 rw [he]
 clear he h
 generalize s.rd (p * 64) = a at *
 generalize s.rd (p * 64 + 1) = b at *
 generalize s.err (p * 64) = e1 at *
 generalize s.err (p * 64 + 1) = e2 at *
 rw [show ((p * 64 : Nat) : Int) = (p : Int) * 64 from by simp] at r1
 rw [show ((p * 64 + 1 : Nat) : Int) = (p : Int) * 64 + 1 from by simp] at r2
 have HR := kq2 r1 r2
 clear r1 r2
 have hand := bits_and_u64_nat a 255 l1 (by decide)
 rw [show a &&& 255 = a % 256 from Nat.and_two_pow_sub_one_eq_mod a 8] at hand
 have hb0 : Below w.heap.size w (w.alloc (.cells #[.int .i64 0, .int .i64 0, .int .u64 0] 196)) := (Below.refl _ w).alloc (Nat.le_refl _) _
 go_enter Tryz.func144, Tryz.ntmps144
 go_wp2_with fail
 refine (HR.out.1 _ hb0).mono ?_
 rintro e w1 ⟨rfl, rfl⟩
 go_wp2_with fail
 refine (HR.out.2 _ hb0).mono ?_
 rintro e w1 ⟨rfl, rfl⟩
 go_wp2_with fail
 have hw : wrap64 (bits BinOp.and IntKind.u64 (a : Int) 255) = ((a % 256 : Nat) : Int) := by
  rw [show (255 : Int) = ((255 : Nat) : Int) from rfl, hand]
  unfold wrap64
  omega
 simp only [hw]
 exact bodyPost_ret (v := headV ⟨a % 256, a / 256, b⟩) (by simp [results, Tryz.f144, go_sem, headV]) rfl ⟨rfl, (Below.refl _ w).alloc (Nat.le_refl _) _⟩
theorem heap_put {w : World} {ph pa pm : Nat} {s : Slab} {Y : Nat → Prop} (h : HeapOn w ph pa pm s Y) (p : Nat) (x : Head) (hp : p ≤ 1048576) (hk : x.kind < 256) (hn : x.n < 72057594037927936) (hxw : x.w < 18446744073709551616) :
 Calls Tryz.prog 114 #[PV ph, .int .i64 p, headV x] w fun e w' => e = .returned (.tuple #[]) ∧ HeapOn w' ph pa pm (putH s p x) Y ∧ Keep Y w w' := by
 obtain ⟨kd, xn, xw⟩ := x
 simp only at hk hn hxw
 simp only [headV]
 have ho := h.own (.cells #[.int .i64 kd, .int .i64 xn, .int .u64 xw] 196)
 have hwd : kd + xn * 256 < 18446744073709551616 := by omega
 have hor : bits BinOp.or IntKind.u64 (kd : Int) ((xn : Int) * 256) = ((kd + xn * 256 : Nat) : Int) := by
  rw [show ((xn : Int) * 256) = ((xn * 256 : Nat) : Int) by simp, bits_or_u64_nat _ _ (by omega) (by omega)]
  congr 1
  have h8 := Nat.shiftLeft_add_eq_or_of_lt (i := 8) (b := kd) (by omega) xn
  rw [Nat.shiftLeft_eq] at h8
  rw [Nat.or_comm, Nat.add_comm]
  exact h8.symm
 have HOR := Lib.hid hor
 clear hor
 have hmu : IntKind.u64.wrap ((xn : Int) * 256) = ((xn * 256 : Nat) : Int) := by rw [IntKind.wrap_u64]; omega
 have hput : putH s p ⟨kd, xn, xw⟩ = (s.wr (p * 64) (kd + xn * 256)).wr (p * 64 + 1) xw := rfl
 rw [hput]
 obtain ⟨W0, hW0⟩ : ∃ W0, w.alloc (.cells #[.int .i64 kd, .int .i64 xn, .int .u64 xw] 196) = W0 := ⟨_, rfl⟩
 have hnew : W0.heap[w.heap.size]? = some (.cells #[.int .i64 kd, .int .i64 xn, .int .u64 xw] 196 (0, 0)) := by
  rw [← hW0]; show (w.heap.push _)[w.heap.size]? = _; simp
 have hbel : Below w.heap.size w W0 := by rw [← hW0]; exact (Below.refl _ w).alloc (Nat.le_refl _) _
 have b0 : W0.cell? ⟨w.heap.size, 0, none⟩ = some (.int .i64 kd) := by rw [cell_of_block hnew]; rfl
 have b1 : W0.cell? ⟨w.heap.size, 1, none⟩ = some (.int .i64 xn) := by rw [cell_of_block hnew]; rfl
 have b2 : W0.cell? ⟨w.heap.size, 2, none⟩ = some (.int .u64 xw) := by rw [cell_of_block hnew]; rfl
 rw [hW0] at ho
 have c1 := ho.cell
 have hkeep := h.keep hbel
 have hyz := And.intro h.yh h.yt
 have HO := kq5 ho hkeep hyz hW0 hnew
 clear ho h hW0 hnew hbel hput hkeep hyz
 go_enter Tryz.func114, Tryz.ntmps114
 go_wp2_with fail
 rw [HO.out.2.2.2.1]
 refine wp_region_quiet_tail (C := fun w' => ∃ q : Nat, w' = (W0).drewN q) 14 (by kernel_rfl) (by kernel_rfl) ⟨1, rfl⟩ ?_
 simp only [List.take_succ_cons, List.take_zero, List.drop_succ_cons, List.drop_zero]
 repeat (first | go_big_quiet_skip | (go_big_quiet_want; go_big_quiet_op; first | go_big_quiet_on))
 refine wpQuiet_nil ?_
 rintro _ ⟨q, rfl⟩
 go_wp2_with fail
 refine ((HO.out.1.drewN q).write' (p * 64) (kd + xn * 256) (by omega) hwd (by simp) HOR.out).mono ?_
 rintro e w1 ⟨rfl, ho1, hk1⟩
 have c1 := ho1.cell
 have b2 : w1.cell? ⟨w.heap.size, 2, none⟩ = some (.int .u64 xw) := by rw [hk1.cell (p := ⟨w.heap.size, 2, none⟩) (Or.inr rfl)]; exact b2
 have H1 := kq2 ho1 (hk1.mono (Z := Y) fun k hk => Or.inl hk)
 clear ho1 hk1 b0 b1
 go_wp2_with fail
 refine wp_region_quiet_tail (C := fun w' => ∃ q : Nat, w' = (w1).drewN q) 9 (by kernel_rfl) (by kernel_rfl) ⟨1, rfl⟩ ?_
 simp only [List.take_succ_cons, List.take_zero, List.drop_succ_cons, List.drop_zero]
 repeat (first | go_big_quiet_skip | (go_big_quiet_want; go_big_quiet_op; first | go_big_quiet_on))
 refine wpQuiet_nil ?_
 rintro _ ⟨q, rfl⟩
 go_wp2_with fail
 refine ((H1.out.1.drewN q).write' (p * 64 + 1) xw (by omega) hxw (by simp) rfl).mono ?_
 rintro e w2 ⟨rfl, ho2, hk2⟩
 have H2 := kq2 (ho2.mono (fun k hk => Or.inl hk) HO.out.2.2.1.1 HO.out.2.2.1.2) (hk2.mono (Z := Y) fun k hk => Or.inl hk)
 clear ho2 hk2
 go_wp2_with fail
 go_end0
 exact ⟨rfl, H2.out.1, HO.out.2.1.trans ((Keep.drewN _ _ _).trans (H1.out.2.trans ((Keep.drewN _ _ _).trans H2.out.2)))⟩
theorem heap_clear {w : World} {ph pa pm : Nat} {s : Slab} {Y : Nat → Prop} (h : HeapOn w ph pa pm s Y) (a n : Nat) (ha : a ≤ 2305843009213693952) (hn : n ≤ 100000) :
 Calls Tryz.prog 148 #[PV ph, .int .i64 a, .int .i64 n] w fun e w' => e = .returned (.tuple #[]) ∧ HeapOn w' ph pa pm (clearH s a n) Y ∧ Keep Y w w' := by
 have H := Lib.hid h
 clear h
 go_enter Tryz.func148, Tryz.ntmps148
 go_wp2_with fail
 go_loopw [6, 8] (fun _ i wr => ∃ k : Nat, k ≤ n ∧ i = .int .i64 k ∧ Hid (HeapOn wr ph pa pm (s.zero a k) Y ∧ Keep Y w wr)) (fun _ i _ => n - (intOf i).toNat)
 case atStart => exact ⟨0, by omega, rfl, H.out, Keep.refl _ _⟩
 case round =>
  obtain ⟨k, hk, rfl, hin⟩ := hrel
  have c1 := hin.out.1.cell
  by_cases hlt : k < n
  · go_wp2_with fail
    refine (hin.out.1.write' (a + k) 0 (by omega) (by decide) (by simp) rfl).mono ?_
    rintro e w1 ⟨rfl, h1, k1⟩
    have H1 := kq2 h1 (hin.out.2.trans k1)
    clear h1 k1 c1
    go_wp2_with fail
    go_roundw
    case rel => exact ⟨k + 1, by omega, by go_num, H1.out⟩
    case measure => simp [intOf]; omega
  · obtain rfl : k = n := by omega
    go_wp2_with fail
    go_end0
    exact ⟨rfl, hin.out⟩
structure TabWF (t : Tab) : Prop where
 most : 1 ≤ t.most ∧ t.most ≤ 65536
 last : 1 ≤ t.last ∧ t.last < 4294967296
 len : t.slots.length ≤ t.most
 slot : ∀ x ∈ t.slots, x.is ≤ 2 ∧ x.gen < 4294967296 ∧ x.addr ≤ 4611686018427387903
def slotCells (x : Slot) : List Value := [.int .i64 x.is, .int .u32 x.gen, .int .i64 x.addr]
def slotRow (l : List Slot) : List Value := l.flatMap slotCells
structure TabOn (w : World) (pt : Nat) (t : Tab) (v : Value) : Prop where
 wf : TabWF t
 hd : w.heap[pt]? = some (.cells #[.int .i64 t.most, .int .u32 t.last, v] 174 (0, 0))
 row : w.ownsRow 0 205 3 v t.slots.length (slotRow t.slots)
theorem slotRow_length (l : List Slot) : (slotRow l).length = l.length * 3 := by
 induction l with
 | nil => rfl
 | cons x r ih => simp only [slotRow, List.flatMap_cons, List.length_append, slotCells, List.length_cons, List.length_nil] at ih ⊢; omega
theorem slotRow_get (l : List Slot) : ∀ (k j : Nat) (h : k < l.length), j < 3 → (slotRow l)[k * 3 + j]? = (slotCells l[k])[j]? := by
 induction l with
 | nil => intro k j h; simp at h
 | cons x r ih =>
  intro k j h hj
  cases k with
  | zero =>
   simp only [slotRow, List.flatMap_cons, Nat.zero_mul, Nat.zero_add, List.getElem_cons_zero]
   rw [List.getElem?_append_left (by simp [slotCells]; omega)]
  | succ k =>
   simp only [slotRow, List.flatMap_cons, List.getElem_cons_succ]
   rw [List.getElem?_append_right (by simp [slotCells]; omega), show (k + 1) * 3 + j - (slotCells x).length = k * 3 + j by simp [slotCells]; omega]
   exact ih k j (by simpa using h) hj
theorem TabOn.cells {w : World} {pt : Nat} {t : Tab} {v : Value} (h : TabOn w pt t v) :
 (t.slots = [] ∧ v = .slice none 0 0) ∨ ∃ g cap, v = .slice (some ⟨g, 0, none⟩) t.slots.length cap ∧ ∀ (k : Nat) (hk : k < t.slots.length),
  w.cell? ⟨g, k * 3, none⟩ = some (.int .i64 t.slots[k].is) ∧ w.cell? ⟨g, k * 3 + 1, none⟩ = some (.int .u32 t.slots[k].gen) ∧ w.cell? ⟨g, k * 3 + 2, none⟩ = some (.int .i64 t.slots[k].addr) := by
 rcases h.row.2 with ⟨h0, hx⟩ | ⟨g, cap, cur, hv, _, hb, h1, _, h3, h4⟩
 · exact Or.inl ⟨List.length_eq_zero_iff.1 hx, h0⟩
 · refine Or.inr ⟨g, cap, hv, fun k hk => ?_⟩
   have key : ∀ j, j < 3 → w.cell? ⟨g, k * 3 + j, none⟩ = (slotCells t.slots[k])[j]? := fun j hj => by
    rw [cell_of_block hb, ← slotRow_get t.slots k j hk hj, ← h4, List.getElem?_take_of_lt (by omega), Array.getElem?_toList]
   exact ⟨key 0 (by decide), key 1 (by decide), key 2 (by decide)⟩
theorem tab_none {w : World} {pt : Nat} {t : Tab} {v : Value} (h : TabOn w pt t v) :
 Calls Tryz.prog 120 #[PV pt] w fun e w' => e = .returned (.bool false) ∧ w = w' := by
 have c0 : w.cell? ⟨pt, 0, none⟩ = some (.int .i64 t.most) := by rw [cell_of_block h.hd]; rfl
 have hm := h.wf.most
 have hb : ((t.most : Int) == 0) = false := by simp; omega
 clear h
 go_enter Tryz.func120, Tryz.ntmps120
 go_wp2
 go_ret
 exact ⟨rfl, rfl⟩
def slotP (v : Value) (k : Nat) : Value := match v with | .slice (some ⟨g, 0, none⟩) _ _ => .pointer (some ⟨g, k * 3, none⟩) | _ => .pointer none
theorem tab_of {w : World} {pt : Nat} {t : Tab} {v : Value} (h : TabOn w pt t v) (hh : Nat) (hl : hh < 18446744073709551616) :
 Calls Tryz.prog 127 #[PV pt, .int .u64 hh] w fun e w' => e = .returned (match t.of hh with | some k => .tuple #[slotP v k, .int .i64 0] | none => .tuple #[.pointer none, .int .i64 7]) ∧ w = w' := by
 have hno := tab_none h
 have c2 : w.cell? ⟨pt, 2, none⟩ = some v := by rw [cell_of_block h.hd]; rfl
 have hand : bits BinOp.and IntKind.u64 (hh : Int) 4294967295 = ((hh % 4294967296 : Nat) : Int) := by
  rw [show (4294967295 : Int) = ((4294967295 : Nat) : Int) from rfl, bits_and_u64_nat _ _ hl (by decide)]
  congr 1
  exact Nat.and_two_pow_sub_one_eq_mod hh 32
 obtain ⟨q, hq⟩ : ∃ q, hh % 4294967296 = q := ⟨_, rfl⟩
 obtain ⟨g, hg⟩ : ∃ g, hh / 4294967296 = g := ⟨_, rfl⟩
 have hshr : (hh : Int) / 4294967296 = (g : Int) := by omega
 have hq2 : q < 4294967296 := by omega
 have hg2 : g < 4294967296 := by omega
 rw [hq] at hand
 obtain ⟨R, hR⟩ : ∃ R, (match t.of hh with | some k => Value.tuple #[slotP v k, .int .i64 0] | none => .tuple #[.pointer none, .int .i64 7]) = R := ⟨_, rfl⟩
 rw [hR]
 have hof : t.of hh = if q = 0 then none else match t.slots[q - 1]? with | none => none | some x => if x.is = 1 ∧ x.gen = g then some (q - 1) else none := by
  unfold Tab.of
  simp only [hq, hg]
  rfl
 by_cases h0 : q = 0
 · rw [h0, if_pos rfl] at hof
   have hRe : R = .tuple #[.pointer none, .int .i64 7] := by rw [← hR, hof]
   subst h0
   have HG := kq2 hno hRe
   clear hno hRe hR hof h hq hg hshr
   go_enter Tryz.func127, Tryz.ntmps127
   go_wp2_with fail
   refine HG.out.1.mono ?_
   rintro e w1 ⟨rfl, rfl⟩
   go_wp2_with fail
   go_ret2
   obtain rfl := HG.out.2
   exact ⟨rfl, rfl⟩
 · rw [if_neg h0] at hof
   rcases h.cells with ⟨he, hv⟩ | ⟨b, cap, hv, hcs⟩
   · rw [he] at hof
     have hRe : R = .tuple #[.pointer none, .int .i64 7] := by rw [← hR, hof]; rfl
     subst hv
     have h1 : ¬ ((q : Int) - 1 < 0) := by omega
     have HG := kq2 hno hRe
     clear hno hRe hR hof h hq hg he hshr
     go_enter Tryz.func127, Tryz.ntmps127
     go_wp2_with fail
     refine HG.out.1.mono ?_
     rintro e w1 ⟨rfl, rfl⟩
     go_wp2_with fail
     go_ret2
     obtain rfl := HG.out.2
     exact ⟨rfl, rfl⟩
   · obtain ⟨k, rfl⟩ : ∃ k, q = k + 1 := ⟨q - 1, by omega⟩
     rw [Nat.add_sub_cancel] at hof
     have hlen := h.wf.len
     have hmost := h.wf.most
     by_cases hk : k < t.slots.length
     · obtain ⟨k0, k1, _⟩ := hcs k hk
       rw [List.getElem?_eq_getElem hk] at hof
       simp only at hof
       have hgl := (h.wf.slot _ (List.getElem_mem hk)).2.1
       clear hcs
       generalize t.slots[k] = x at *
       clear h
       generalize hL : t.slots.length = L at *
       obtain ⟨xi, xg, xa⟩ := x
       simp only at hof k0 k1 hgl
       subst hv
       have hkl : (k : Int) < L := by omega
       by_cases h1 : xi = 1
       · by_cases h2 : xg = g
         · have hRe : R = .tuple #[.pointer (some ⟨b, k * 3, none⟩), .int .i64 0] := by rw [← hR, hof, if_pos ⟨h1, h2⟩]; rfl
           subst h1 h2
           have HG := kq2 hno hRe
           clear hno hRe hR hof hq hg hL h0
           go_enter Tryz.func127, Tryz.ntmps127
           go_wp2_with fail
           refine HG.out.1.mono ?_
           rintro e w1 ⟨rfl, rfl⟩
           go_wp2_with fail
           go_ret2
           obtain rfl := HG.out.2
           exact ⟨rfl, rfl⟩
         · have hRe : R = .tuple #[.pointer none, .int .i64 7] := by rw [← hR, hof, if_neg (fun hh => h2 hh.2)]
           have hq2 : ((xg : Int) != g) = true := by simp; omega
           subst h1
           have HG := kq2 hno hRe
           clear hno hRe hR hof hq hg hL h0 h2
           go_enter Tryz.func127, Tryz.ntmps127
           go_wp2_with fail
           refine HG.out.1.mono ?_
           rintro e w1 ⟨rfl, rfl⟩
           go_wp2_with fail
           go_ret2
           obtain rfl := HG.out.2
           exact ⟨rfl, rfl⟩
       · have hRe : R = .tuple #[.pointer none, .int .i64 7] := by rw [← hR, hof, if_neg (fun hh => h1 hh.1)]
         have hq2 : ((xi : Int) != 1) = true := by simp; omega
         have HG := kq2 hno hRe
         clear hno hRe hR hof hq hg hL h0 h1
         go_enter Tryz.func127, Tryz.ntmps127
         go_wp2_with fail
         refine HG.out.1.mono ?_
         rintro e w1 ⟨rfl, rfl⟩
         go_wp2_with fail
         go_ret2
         obtain rfl := HG.out.2
         exact ⟨rfl, rfl⟩
     · rw [List.getElem?_eq_none (by omega)] at hof
       have hRe : R = .tuple #[.pointer none, .int .i64 7] := by rw [← hR, hof]
       clear hcs h
       generalize hL : t.slots.length = L at *
       subst hv
       have hkl : (L : Int) ≤ k := by omega
       have HG := kq2 hno hRe
       clear hno hRe hR hof hq hg hL h0
       go_enter Tryz.func127, Tryz.ntmps127
       go_wp2_with fail
       refine HG.out.1.mono ?_
       rintro e w1 ⟨rfl, rfl⟩
       go_wp2_with fail
       go_ret2
       obtain rfl := HG.out.2
       exact ⟨rfl, rfl⟩
theorem Tab.of_lt {t : Tab} {h k : Nat} (hk : t.of h = some k) : ∃ hlt : k < t.slots.length, t.slots[k].is = 1 ∧ t.slots[k].gen = h / 4294967296 ∧ k + 1 = h % 4294967296 := by
 unfold Tab.of at hk
 simp only at hk
 split at hk
 · cases hk
 · rename_i h0
   split at hk
   · cases hk
   · rename_i x hx
     split at hk
     · rename_i hc
       injection hk with hk
       obtain ⟨hlt, hxe⟩ := List.getElem?_eq_some_iff.1 hx
       subst hk
       refine ⟨hlt, ?_, ?_, by omega⟩
       · rw [hxe]; exact hc.1
       · rw [hxe]; exact hc.2
     · cases hk
theorem tab_at_eq {t : Tab} {h k : Nat} (hk : t.of h = some k) (hlt : k < t.slots.length) : t.at h = (t.slots[k].addr, 0) := by
 unfold Tab.at
 rw [hk]
 simp only
 rw [List.getD_eq_getElem?_getD, List.getElem?_eq_getElem hlt]
 rfl
theorem tab_at {w : World} {pt : Nat} {t : Tab} {v : Value} (h : TabOn w pt t v) (hh : Nat) (hl : hh < 18446744073709551616) :
 Calls Tryz.prog 126 #[PV pt, .int .u64 hh] w fun e w' => e = .returned (.tuple #[.int .i64 ((t.at hh).1 : Nat), .int .i64 ((t.at hh).2 : Nat)]) ∧ w = w' := by
 have ho := tab_of h hh hl
 cases hk : t.of hh with
 | none =>
  have he : t.at hh = (0, 7) := by unfold Tab.at; rw [hk]
  rw [hk] at ho
  rw [he]
  have HO := Lib.hid ho
  clear ho he hk h
  go_enter Tryz.func126, Tryz.ntmps126
  go_wp2_with fail
  refine HO.out.mono ?_
  rintro e w1 ⟨rfl, rfl⟩
  go_wp2_with fail
  go_ret2
  exact ⟨rfl, rfl⟩
 | some k =>
  obtain ⟨hlt, _⟩ := Tab.of_lt hk
  have he := tab_at_eq hk hlt
  rw [hk] at ho
  rw [he]
  rcases h.cells with ⟨h0, _⟩ | ⟨b, cap, hv, hcs⟩
  · rw [h0] at hlt; simp at hlt
  · have k2 := (hcs k hlt).2.2
    generalize t.slots[k] = x at *
    rw [hv] at ho
    simp only [slotP] at ho
    have HO := Lib.hid ho
    clear ho he hk hcs h hv
    go_enter Tryz.func126, Tryz.ntmps126
    go_wp2_with fail
    refine HO.out.mono ?_
    rintro e w1 ⟨rfl, rfl⟩
    go_wp2_with fail
    go_ret2
    exact ⟨rfl, rfl⟩
theorem tab_new (n l : Nat) (w : World) (hn : 1 ≤ n ∧ n ≤ 65536) (hl : 1 ≤ l ∧ l < 4294967296) :
 Calls Tryz.prog 77 #[.int .i64 n, .int .u32 l] w fun e w' => e = .returned (.tuple #[PV w.heap.size, .int .i64 0]) ∧ TabOn w' w.heap.size ⟨n, l, []⟩ (.slice none 0 0) ∧ Below w.heap.size w w' := by
 obtain ⟨h1, h2⟩ := hn
 obtain ⟨h3, h4⟩ := hl
 have ht : TabOn (w.alloc (.cells #[.int .i64 n, .int .u32 l, .slice none 0 0] 174)) w.heap.size ⟨n, l, []⟩ (.slice none 0 0) := by
  refine ⟨⟨⟨h1, h2⟩, ⟨h3, h4⟩, Nat.zero_le _, fun x hx => absurd hx (by simp)⟩, ?_, World.ownsRow_nil _ _ _ _⟩
  show (w.heap.push _)[w.heap.size]? = _
  simp
 have HT := Lib.hid ht
 clear ht
 go_enter Tryz.func77, Tryz.ntmps77
 go_wp2
 go_ret2
 exact ⟨rfl, HT.out, (Below.refl _ _).alloc (Nat.le_refl _) _⟩
theorem tab_name {w : World} {pt : Nat} {t : Tab} {v : Value} (h : TabOn w pt t v) (k : Nat) (hk : k < t.slots.length) :
 Calls Tryz.prog 121 #[PV pt, .int .i64 k] w fun e w' => e = .returned (.int .u64 (nameOf t.slots[k].gen k : Nat)) ∧ w = w' := by
 have c2 : w.cell? ⟨pt, 2, none⟩ = some v := by rw [cell_of_block h.hd]; rfl
 have hlen := h.wf.len
 have hmost := h.wf.most
 rcases h.cells with ⟨h0, _⟩ | ⟨b, cap, hv, hcs⟩
 · rw [h0] at hk; simp at hk
 · have k1 := (hcs k hk).2.1
   have hg := (h.wf.slot _ (List.getElem_mem hk)).2.1
   clear hcs
   generalize t.slots[k].gen = g at *
   clear h
   generalize hL : t.slots.length = L at *
   subst hv
   have hkl : (k : Int) < L := by omega
   have hor : bits BinOp.or IntKind.u64 ((g : Int) * 4294967296) ((k : Int) + 1) = ((nameOf g k : Nat) : Int) := by
    rw [show ((g : Int) * 4294967296) = ((g * 4294967296 : Nat) : Int) by simp, show ((k : Int) + 1) = ((k + 1 : Nat) : Int) by simp, bits_or_u64_nat _ _ (by omega) (by omega)]
    congr 1
    have h8 := Nat.shiftLeft_add_eq_or_of_lt (i := 32) (b := k + 1) (by omega) g
    rw [Nat.shiftLeft_eq] at h8
    exact h8.symm
   have HOR := Lib.hid hor
   clear hor hL
   go_enter Tryz.func121, Tryz.ntmps121
   go_wp2
   go_ret
   rw [← HOR.out]
   exact ⟨rfl, rfl⟩
theorem firstFree_eq : ∀ (l : List Slot) (k0 k : Nat), k ≤ l.length → (∀ j (h : j < l.length), j < k → l[j].is ≠ 0) → (k = l.length ∨ ∃ h : k < l.length, l[k].is = 0) → firstFree l k0 = k0 + k
 | [], k0, k, hk, _, _ => by
  have : k = 0 := by simpa using hk
  subst this; rfl
 | x :: r, k0, k, hk, h1, h2 => by
  unfold firstFree
  cases k with
  | zero =>
   rcases h2 with h2 | ⟨h, h2⟩
   · simp at h2
   · rw [if_pos (by simpa using h2)]; rfl
  | succ k =>
   have hx := h1 0 (by simp) (by omega)
   rw [if_neg (by simpa using hx), firstFree_eq r (k0 + 1) k (by simpa using hk) (fun j h hj => by have := h1 (j + 1) (by simpa using h) (by omega); simpa using this) (by
    rcases h2 with h2 | ⟨h, h2⟩
    · exact Or.inl (by simpa using h2)
    · exact Or.inr ⟨by simpa using h, by simpa using h2⟩)]
   omega
theorem slotRow_set : ∀ (l : List Slot) (k : Nat) (x : Slot), k < l.length → (((slotRow l).set (k * 3) (.int .i64 x.is)).set (k * 3 + 1) (.int .u32 x.gen)).set (k * 3 + 2) (.int .i64 x.addr) = slotRow (l.set k x)
 | [], k, _, h => by simp at h
 | y :: r, 0, x, _ => rfl
 | y :: r, k + 1, x, h => by
  have ih := slotRow_set r k x (by simpa using h)
  have e : slotRow (y :: r) = (.int .i64 y.is) :: (.int .u32 y.gen) :: (.int .i64 y.addr) :: slotRow r := rfl
  have e2 : slotRow ((y :: r).set (k + 1) x) = (.int .i64 y.is) :: (.int .u32 y.gen) :: (.int .i64 y.addr) :: slotRow (r.set k x) := rfl
  rw [e, e2, ← ih, show (k + 1) * 3 = k * 3 + 1 + 1 + 1 by omega, show k * 3 + 1 + 1 + 1 + 1 = k * 3 + 1 + 1 + 1 + 1 from rfl, show k * 3 + 1 + 1 + 1 + 2 = k * 3 + 2 + 1 + 1 + 1 by omega]
  simp only [List.set_cons_succ]
theorem slotRow_append (l m : List Slot) : slotRow (l ++ m) = slotRow l ++ slotRow m := by unfold slotRow; exact List.flatMap_append
def putSlot (w : World) (g k : Nat) (x : Slot) : World := ((w.setCell ⟨g, k * 3, none⟩ (.int .i64 x.is)).setCell ⟨g, k * 3 + 1, none⟩ (.int .u32 x.gen)).setCell ⟨g, k * 3 + 2, none⟩ (.int .i64 x.addr)
theorem putSlot_other {w : World} {g k b : Nat} {x : Slot} (h : b ≠ g) : (putSlot w g k x).heap[b]? = w.heap[b]? := by
 unfold putSlot
 rw [heap_setCell_ne h, heap_setCell_ne h, heap_setCell_ne h]
theorem putSlot_size (w : World) (g k : Nat) (x : Slot) : (putSlot w g k x).heap.size = w.heap.size := by unfold putSlot; rw [size_setCell, size_setCell, size_setCell]
theorem owns_putSlot {w : World} {g cap k : Nat} {l : List Slot} (h : w.ownsRow 0 205 3 (.slice (some ⟨g, 0, none⟩) l.length cap) l.length (slotRow l)) (x : Slot) (hk : k < l.length) :
 (putSlot w g k x).ownsRow 0 205 3 (.slice (some ⟨g, 0, none⟩) l.length cap) l.length (slotRow (l.set k x)) := by
 rcases h.2 with ⟨h0, _⟩ | ⟨g', cap', cur, hv, hg, hb, h1, h2, h3, h4⟩
 · cases h0
 · injection hv with hv1 hv2 hv3
   injection hv1 with hv1
   injection hv1 with hv1
   subst hv1 hv3
   refine ⟨by rw [slotRow_length, List.length_set], Or.inr ⟨g, cap, ((cur.setIfInBounds (k * 3) (.int .i64 x.is)).setIfInBounds (k * 3 + 1) (.int .u32 x.gen)).setIfInBounds (k * 3 + 2) (.int .i64 x.addr), rfl, hg, ?_, h1, h2, by simpa using h3, ?_⟩⟩
   · unfold putSlot
     exact heap_setCell (heap_setCell (heap_setCell hb))
   · have hsp : cur.toList = slotRow l ++ cur.toList.drop (l.length * 3) := by rw [← h4, List.take_append_drop]
     have hl := slotRow_length l
     simp only [Array.toList_setIfInBounds]
     rw [hsp, List.set_append_left _ _ (by omega), List.set_append_left _ _ (by simp; omega), List.set_append_left _ _ (by simp; omega), List.take_left' (by simp; omega), slotRow_set l k x hk]
theorem slotInfo : (Tryz.prog.info? 205).map (fun i => (i.zero, i.size, i.bytes)) = some (some (.agg #[.int .i64 0, .int .u32 0, .int .i64 0]), 3, 24) := by kernel_rfl
theorem TabOn.form {w : World} {pt : Nat} {t : Tab} {v : Value} (h : TabOn w pt t v) :
 ∃ A cap, v = .slice A t.slots.length cap ∧ ∀ (k : Nat) (hk : k < t.slots.length), ∃ g, A = some ⟨g, 0, none⟩ ∧
  (w.cell? ⟨g, k * 3, none⟩ = some (.int .i64 t.slots[k].is) ∧ w.cell? ⟨g, k * 3 + 1, none⟩ = some (.int .u32 t.slots[k].gen) ∧ w.cell? ⟨g, k * 3 + 2, none⟩ = some (.int .i64 t.slots[k].addr)) ∧
  (w.frozen? ⟨g, k * 3, none⟩ = false ∧ w.frozen? ⟨g, k * 3 + 1, none⟩ = false ∧ w.frozen? ⟨g, k * 3 + 2, none⟩ = false) ∧ g ≠ pt := by
 rcases h.row.2 with ⟨h0, hx⟩ | ⟨g, cap, cur, hv, _, hb, h1, _, h3, h4⟩
 · exact ⟨none, 0, by rw [h0, hx], fun k hk => by omega⟩
 · refine ⟨_, cap, hv, fun k hk => ⟨g, rfl, ?_, ⟨frozen_of_block hb, frozen_of_block hb, frozen_of_block hb⟩, fun e => ?_⟩⟩
   · have key : ∀ j, j < 3 → w.cell? ⟨g, k * 3 + j, none⟩ = (slotCells t.slots[k])[j]? := fun j hj => by
      rw [cell_of_block hb, ← slotRow_get t.slots k j hk hj, ← h4, List.getElem?_take_of_lt (by omega), Array.getElem?_toList]
     exact ⟨key 0 (by decide), key 1 (by decide), key 2 (by decide)⟩
   · have := h.hd
     rw [← e, hb] at this
     injection this with this
     injection this with _ this
     exact absurd this (by decide)
theorem TabOn.set {w : World} {pt : Nat} {t : Tab} {g cap k : Nat} (h : TabOn w pt t (.slice (some ⟨g, 0, none⟩) t.slots.length cap)) (x : Slot) (hk : k < t.slots.length) (hx : x.is ≤ 2 ∧ x.gen < 4294967296 ∧ x.addr ≤ 4611686018427387903) (hg : g ≠ pt) :
 TabOn (putSlot w g k x) pt { t with slots := t.slots.set k x } (.slice (some ⟨g, 0, none⟩) t.slots.length cap) where
 wf := ⟨h.wf.most, h.wf.last, by simpa using h.wf.len, fun y hy => by
  rcases List.mem_or_eq_of_mem_set hy with hy | rfl
  · exact h.wf.slot y hy
  · exact hx⟩
 hd := by rw [putSlot_other (Ne.symm hg)]; exact h.hd
 row := by
  have := owns_putSlot h.row x hk
  simpa using this
theorem TabOn.opened {w : World} {pt : Nat} {t : Tab} {g cap k : Nat} (h : TabOn w pt t (.slice (some ⟨g, 0, none⟩) t.slots.length cap)) (q is gen a : Nat) (hk : k < t.slots.length) (hx : is ≤ 2 ∧ gen < 4294967296 ∧ a ≤ 4611686018427387903) (hg : g ≠ pt) (Y : Nat → Prop) (hy : ∀ b, Y b → b ≠ g) :
 TabOn (putSlot (w.drewN q) g k ⟨is, gen, a⟩) pt { t with slots := t.slots.set k ⟨is, gen, a⟩ } (.slice (some ⟨g, 0, none⟩) t.slots.length cap) ∧ Keep Y w (putSlot (w.drewN q) g k ⟨is, gen, a⟩) :=
 have hd : TabOn (w.drewN q) pt t (.slice (some ⟨g, 0, none⟩) t.slots.length cap) := ⟨h.wf, h.hd, h.row⟩
 ⟨hd.set ⟨is, gen, a⟩ hk hx hg, rfl, rfl, rfl, Nat.le_of_eq (putSlot_size (w.drewN q) g k ⟨is, gen, a⟩).symm, fun b hb => putSlot_other (w := w.drewN q) (hy b hb)⟩
theorem TabOn.named {w : World} {pt : Nat} {t : Tab} {v : Value} {k is gen a : Nat} (h : TabOn w pt { t with slots := t.slots.set k ⟨is, gen, a⟩ } v) (hk : k < t.slots.length) :
 Calls Tryz.prog 121 #[PV pt, .int .i64 k] w fun e w' => e = .returned (.int .u64 (nameOf gen k : Nat)) ∧ w = w' := by
 have := tab_name h k (by simpa using hk)
 simpa using this
theorem slotRow_zero (l : List Slot) : slotRow l ++ [.int .i64 0, .int .u32 0, .int .i64 0] = slotRow (l ++ [⟨0, 0, 0⟩]) := by rw [slotRow_append]; rfl
theorem TabOn.head_ne {w : World} {pt : Nat} {t : Tab} {v : Value} (h : TabOn w pt t v) : v.ownBlock ≠ some pt := by
 rcases h.row.2 with ⟨rfl, _⟩ | ⟨g, cap, cur, rfl, _, hb, _⟩
 · simp [Value.ownBlock]
 · simp only [Value.ownBlock, ne_eq, Option.some.injEq]
   intro e
   have := h.hd
   rw [← e, hb] at this
   injection this with this
   injection this with _ this
   exact absurd this (by decide)
theorem TabOn.pt_lt {w : World} {pt : Nat} {t : Tab} {v : Value} (h : TabOn w pt t v) : pt < w.heap.size := (gl h.hd)
theorem TabOn.grew {w w1 : World} {pt : Nat} {t : Tab} {v v' : Value} (h : TabOn w pt t v) (o : Obj) (hm : t.slots.length < t.most) (hown : w1.ownsRow 0 205 3 v' (t.slots.length + 1) (slotRow t.slots ++ [.int .i64 0, .int .u32 0, .int .i64 0]))
 (hgrow : (w.alloc o).grownBy w1 v.ownBlock) (hat : v'.ownBlock = v.ownBlock ∨ v'.ownBlock = some (w.heap.size + 1)) (Y : Nat → Prop) (hy : ∀ b, Y b → b < w.heap.size ∧ b ≠ pt ∧ some b ≠ v.ownBlock) :
 w1.heap[pt]? = w.heap[pt]? ∧ TabOn (w1.setCell ⟨pt, 2, none⟩ v') pt { t with slots := t.slots ++ [⟨0, 0, 0⟩] } v' ∧ Keep Y w (w1.setCell ⟨pt, 2, none⟩ v') ∧ (∀ b, Y b → some b ≠ v'.ownBlock) := by
 have hlt := h.pt_lt
 have hpt : w1.heap[pt]? = w.heap[pt]? := by
  rw [hgrow.block pt (by simp; omega) (fun e => h.head_ne e.symm), heap_alloc_old w o hlt]
 have hne : v'.ownBlock ≠ some pt := by
  rcases hat with e | e
  · rw [e]; exact h.head_ne
  · rw [e]; simp; omega
 refine ⟨hpt, ⟨⟨h.wf.most, h.wf.last, by simp; omega, fun x hx => ?_⟩, ?_, ?_⟩, ⟨hgrow.os, hgrow.tape, hgrow.output, ?_, fun b hb => ?_⟩, fun b hb e => ?_⟩
 · rcases List.mem_append.1 hx with hx | hx
   · exact h.wf.slot x hx
   · obtain rfl := List.mem_singleton.1 hx; simp
 · exact heap_setCell (hpt.trans h.hd)
 · rw [slotRow_zero] at hown
   simp only [List.length_append, List.length_cons, List.length_nil, Nat.zero_add]
   refine ⟨hown.1, ?_⟩
   rcases hown.2 with hn | ⟨g, cap, cur, rfl, hb, hg, rest⟩
   · exact Or.inl hn
   · refine Or.inr ⟨g, cap, cur, rfl, hb, ?_, rest⟩
     rw [heap_setCell_ne (fun e => hne (by rw [← show g = pt from e]; rfl))]
     exact hg
 · have := hgrow.size
   rw [size_setCell]
   simp at this
   omega
 · obtain ⟨h1, h2, h3⟩ := hy b hb
   rw [heap_setCell_ne h2, hgrow.block b (by simp; omega) h3, heap_alloc_old w o h1]
 · obtain ⟨h1, h2, h3⟩ := hy b hb
   rcases hat with e' | e'
   · exact h3 (e.trans e')
   · rw [e'] at e; injection e with e; omega
theorem tab_open {w : World} {pt : Nat} {t : Tab} {v : Value} (h : TabOn w pt t v) (a : Nat) (ha : a ≤ 4611686018427387903) (Y : Nat → Prop) (hy : ∀ b, Y b → b < w.heap.size ∧ b ≠ pt ∧ some b ≠ v.ownBlock) :
 Calls Tryz.prog 94 #[PV pt, .int .i64 a] w fun e w' => e = .returned (.tuple #[.int .u64 ((t.open a).1.1 : Nat), .int .i64 ((t.open a).1.2 : Nat)]) ∧ (∃ v', TabOn w' pt (t.open a).2 v' ∧ ∀ b, Y b → some b ≠ v'.ownBlock) ∧ Keep Y w w' := by
 have hno := tab_none h
 have c0 : w.cell? ⟨pt, 0, none⟩ = some (.int .i64 t.most) := by rw [cell_of_block h.hd]; rfl
 have c2 : w.cell? ⟨pt, 2, none⟩ = some v := by rw [cell_of_block h.hd]; rfl
 have f2 : w.frozen? ⟨pt, 2, none⟩ = false := frozen_of_block h.hd
 obtain ⟨A, cap, hv, hcs⟩ := h.form
 have hlen := h.wf.len
 have hmost := h.wf.most
 obtain ⟨R, hR⟩ : ∃ R, t.open a = R := ⟨_, rfl⟩
 rw [hR]
 have hRe : R = if firstFree t.slots 0 = t.most then ((0, 10), t) else ((nameOf ((t.genAt (firstFree t.slots 0) + 1) % 4294967296) (firstFree t.slots 0), 0), { t with slots := (if firstFree t.slots 0 = t.slots.length then t.slots ++ [⟨0, 0, 0⟩] else t.slots).set (firstFree t.slots 0) ⟨1, (t.genAt (firstFree t.slots 0) + 1) % 4294967296, a⟩ }) := by rw [← hR]; rfl
 subst hv
 obtain ⟨L, hL⟩ : ∃ L, t.slots.length = L := ⟨_, rfl⟩
 obtain ⟨M, hM⟩ : ∃ M, t.most = M := ⟨_, rfl⟩
 rw [hL] at c2 hlen
 rw [hM] at c0 hlen hmost
 have HG := kq7 hno hRe h hcs hL hM hy
 clear hno hRe hR h hcs hL hM hy
 go_enter Tryz.func94, Tryz.ntmps94
 go_wp2_with fail
 refine HG.out.1.mono ?_
 rintro e w1 ⟨rfl, rfl⟩
 go_wp2_with fail
 go_loop [6] (fun i => ∃ k : Nat, k ≤ L ∧ i = .int .i64 k ∧ Hid (∀ j (h : j < t.slots.length), j < k → t.slots[j].is ≠ 0)) (fun i => L - (intOf i).toNat)
 case atStart => exact ⟨0, by omega, rfl, fun j _ hj => absurd hj (by omega)⟩
 case round =>
  obtain ⟨k, hk, rfl, hin⟩ := hrel
  by_cases hlt : k < L
  · obtain ⟨g, hA, ⟨k0, k1, k2⟩, ⟨f0, f1, f3⟩, hgp⟩ := HG.out.2.2.2.1 k (by rw [HG.out.2.2.2.2.1]; exact hlt)
    subst hA
    have hkl : (k : Int) < L := by omega
    by_cases hz : (t.slots[k]'(by rw [HG.out.2.2.2.2.1]; exact hlt)).is = 0
    · rw [hz] at k0
      have hff : firstFree t.slots 0 = 0 + k := firstFree_eq t.slots 0 k (by rw [HG.out.2.2.2.2.1]; exact hk) hin.out (Or.inr ⟨by rw [HG.out.2.2.2.2.1]; exact hlt, hz⟩)
      rw [Nat.zero_add] at hff
      have hkm : ((k : Int) == M) = false := by simp; omega
      have hkL : ((k : Int) == L) = false := by simp; omega
      have hsl := HG.out.2.2.1.wf.slot _ (List.getElem_mem (show k < t.slots.length by rw [HG.out.2.2.2.2.1]; exact hlt))
      have hge : t.genAt k = (t.slots[k]'(by rw [HG.out.2.2.2.2.1]; exact hlt)).gen := by
       unfold Tab.genAt
       rw [List.getD_eq_getElem?_getD, List.getElem?_eq_getElem (by rw [HG.out.2.2.2.2.1]; exact hlt)]
       rfl
      obtain ⟨gn, hgn⟩ : ∃ gn, (t.slots[k]'(by rw [HG.out.2.2.2.2.1]; exact hlt)).gen = gn := ⟨_, rfl⟩
      rw [hgn] at k1 hge hsl
      have HF := kq3 hff hge hsl
      clear hff hge hsl hgn hz
      go_wp2_with fail
      refine wp_region_quiet_tail (C := fun w' => ∃ q : Nat, w' = (w).drewN q) 17 (by kernel_rfl) (by kernel_rfl) ⟨1, rfl⟩ ?_
      simp only [List.take_succ_cons, List.take_zero, List.drop_succ_cons, List.drop_zero]
      repeat (first | go_big_quiet_skip | (go_big_quiet_want; go_big_quiet_op; first | go_big_quiet_on))
      refine wpQuiet_nil ?_
      rintro _ ⟨q, rfl⟩
      go_wp2_with fail
      have HP := Lib.hid (HG.out.2.2.1.opened q 1 ((gn + 1) % 4294967296) a (by rw [HG.out.2.2.2.2.1]; exact hlt) ⟨by omega, Nat.mod_lt _ (by decide), ha⟩ hgp Y (fun b hb e => (HG.out.2.2.2.2.2.2 b hb).2.2 (by rw [e]; rfl)))
      have HN := HP.out.1.named (by rw [HG.out.2.2.2.2.1]; exact hlt)
      rw [show putSlot (w.drewN q) g k ⟨1, (gn + 1) % 4294967296, a⟩ = (((w.drewN q).setCell ⟨g, k * 3, none⟩ (.int .i64 1)).setCell ⟨g, k * 3 + 1, none⟩ (.int .u32 (((gn : Int) + 1) % 4294967296))).setCell ⟨g, k * 3 + 2, none⟩ (.int .i64 a) from rfl] at HN
      refine HN.mono ?_
      rintro e w1 ⟨rfl, rfl⟩
      go_wp2_with fail
      go_ret2
      obtain rfl : R = ((nameOf ((gn + 1) % 4294967296) k, 0), { t with slots := t.slots.set k ⟨1, (gn + 1) % 4294967296, a⟩ }) := by
       rw [HG.out.2.1, HF.out.1, if_neg (by rw [HG.out.2.2.2.2.2.1]; omega), HF.out.2.1, if_neg (by rw [HG.out.2.2.2.2.1]; omega)]
      exact ⟨rfl, ⟨_, HP.out.1, fun b hb => (HG.out.2.2.2.2.2.2 b hb).2.2⟩, HP.out.2⟩
    · obtain ⟨z, hze⟩ : ∃ z, (t.slots[k]'(by rw [HG.out.2.2.2.2.1]; exact hlt)).is = z := ⟨_, rfl⟩
      have hj : ∀ j (h : j < t.slots.length), j < k + 1 → t.slots[j].is ≠ 0 := fun j hjl hjk => by
       rcases Nat.lt_succ_iff_lt_or_eq.1 hjk with hjk | rfl
       · exact hin.out j hjl hjk
       · exact hz
      have hj := Lib.hid hj
      rw [hze] at k0 hz
      have hzi : ((z : Int) == 0) = false := by simp; omega
      clear hze
      go_wp2_with fail
      go_round
      case rel => exact ⟨k + 1, by omega, by simp, hj⟩
      case measure => simp [intOf]; omega
  · obtain rfl : k = L := by omega
    have hff : firstFree t.slots 0 = 0 + k := firstFree_eq t.slots 0 k (by rw [HG.out.2.2.2.2.1]; exact Nat.le_refl _) hin.out (Or.inl HG.out.2.2.2.2.1.symm)
    rw [Nat.zero_add] at hff
    have HF := Lib.hid hff
    clear hff
    by_cases hM : k = M
    · subst hM
      go_wp2_with fail
      go_ret2
      obtain rfl : R = ((0, 10), t) := by rw [HG.out.2.1, HF.out, if_pos HG.out.2.2.2.2.2.1.symm]
      exact ⟨rfl, ⟨_, HG.out.2.2.1, fun b hb => (HG.out.2.2.2.2.2.2 b hb).2.2⟩, Keep.refl _ _⟩
    · have hkm : ((k : Int) == M) = false := by simp; omega
      have HR := Lib.hid HG.out.2.2.1.row
      rw [HG.out.2.2.2.2.1] at HR
      obtain ⟨i0, hi, hz0, hz1, hz2⟩ := info_parts slotInfo
      go_wp2_with (at_builtin; refine wpList_append_own_at _ rfl _ _ 172 rfl 0 205 i0 (.agg #[.int .i64 0, .int .u32 0, .int .i64 0]) 3 24 Tryz.underlying172 hi hz0 hz1 hz2 rfl (by decide) _ _ _ rfl (HR.out.alloc _) ⟨w.heap.size, 0, none⟩ 1 1 [.int .i64 0, .int .u32 0, .int .i64 0] rfl rfl ?c1 ?c2 ?c3 ?c4 ?c5 ?_)
      case c2 => simp [Value.oneCell']
      case c3 => unfold maxLen; omega
      case c4 => omega
      intro v' w1 hown1 hgrow1 _ hat
      have HQ := Lib.hid (HG.out.2.2.1.grew _ (by rw [HG.out.2.2.2.2.1, HG.out.2.2.2.2.2.1]; omega) (by rw [HG.out.2.2.2.2.1]; exact hown1) (by rw [HG.out.2.2.2.2.1]; exact hgrow1) (by rw [HG.out.2.2.2.2.1]; exact hat) Y HG.out.2.2.2.2.2.2)
      clear hown1 hgrow1 hat HR
      have d2 : w1.cell? ⟨pt, 2, none⟩ = some (.slice A k cap) := (World.cell?_of_block HQ.out.1).trans c2
      have g2 : w1.frozen? ⟨pt, 2, none⟩ = false := (World.frozen?_of_block HQ.out.1).trans f2
      obtain ⟨l2, hl2⟩ : ∃ l2, t.slots ++ [(⟨0, 0, 0⟩ : Slot)] = l2 := ⟨_, rfl⟩
      have hl1 : l2.length = k + 1 := by rw [← hl2]; simp [HG.out.2.2.2.2.1]
      have hxe : l2[k]'(by omega) = ⟨0, 0, 0⟩ := by
       subst hl2
       rw [List.getElem_append_right (by rw [HG.out.2.2.2.2.1]; exact Nat.le_refl _)]
       simp [HG.out.2.2.2.2.1]
      rw [hl2] at HQ
      obtain ⟨A', cap', hv', hcs'⟩ := HQ.out.2.1.form
      obtain ⟨g, hA, ⟨k0, k1, k2⟩, ⟨f0, f1, f3⟩, hgp⟩ := hcs' k (by show k < l2.length; omega)
      subst hv' hA
      clear hcs'
      simp only [hxe] at k0 k1 k2
      simp only [hl1] at k0 k1 k2 f0 f1 f3
      have c3 : (w1.setCell ⟨pt, 2, none⟩ (.slice (some ⟨g, 0, none⟩) l2.length cap')).cell? ⟨pt, 2, none⟩ = some (.slice (some ⟨g, 0, none⟩) (k + 1) cap') := by
       rw [cell_of_block HQ.out.2.1.hd, ← hl1]
       rfl
      rw [hl1] at c3
      have HL := kq2 hl1 hl2
      clear hl2 hxe
      simp only [hl1]
      clear hl1
      go_wp2_with fail
      go_name_world W HW
      rw [HL.out.1] at HQ
      rw [HW] at c3 k0 k1 k2 f0 f1 f3 HQ
      clear HW
      refine wp_region_quiet_tail (C := fun w' => ∃ q : Nat, w' = (W).drewN q) 17 (by kernel_rfl) (by kernel_rfl) ⟨1, rfl⟩ ?_
      simp only [List.take_succ_cons, List.take_zero, List.drop_succ_cons, List.drop_zero]
      repeat (first | go_big_quiet_skip | (go_big_quiet_want; go_big_quiet_op; first | go_big_quiet_on))
      refine wpQuiet_nil ?_
      rintro _ ⟨q, rfl⟩
      go_wp2_with fail
      have h2 := HQ.out.2.1
      rw [← HL.out.1] at h2
      have HP := Lib.hid (h2.opened q 1 1 a (by show k < l2.length; rw [HL.out.1]; omega) ⟨by omega, by omega, ha⟩ hgp Y (fun b hb e => HQ.out.2.2.2 b hb (by rw [e]; rfl)))
      have HN := HP.out.1.named (t := ⟨t.most, t.last, l2⟩) (by show k < l2.length; rw [HL.out.1]; omega)
      clear h2
      rw [show putSlot (W.drewN q) g k ⟨1, 1, a⟩ = (((W.drewN q).setCell ⟨g, k * 3, none⟩ (.int .i64 1)).setCell ⟨g, k * 3 + 1, none⟩ (.int .u32 1)).setCell ⟨g, k * 3 + 2, none⟩ (.int .i64 a) from rfl] at HN
      refine HN.mono ?_
      rintro e w1 ⟨rfl, rfl⟩
      go_wp2_with fail
      go_ret2
      obtain rfl : R = ((nameOf 1 k, 0), { t with slots := l2.set k ⟨1, 1, a⟩ }) := by
       rw [HG.out.2.1, HF.out, if_neg (by rw [HG.out.2.2.2.2.2.1]; omega), if_pos HG.out.2.2.2.2.1.symm, HL.out.2]
       have : t.genAt k = 0 := by
        unfold Tab.genAt
        rw [List.getD_eq_getElem?_getD, List.getElem?_eq_none (by rw [HG.out.2.2.2.2.1]; exact Nat.le_refl _)]
        rfl
       rw [this]
      exact ⟨rfl, ⟨_, HP.out.1, fun b hb => by have := HQ.out.2.2.2 b hb; rwa [← HL.out.1] at this⟩, HQ.out.2.2.1.trans HP.out.2⟩
theorem slotRow_setIs : ∀ (l : List Slot) (k i : Nat) (h : k < l.length), (slotRow l).set (k * 3) (.int .i64 i) = slotRow (l.set k { l[k] with is := i })
 | [], k, _, h => by simp at h
 | y :: r, 0, i, _ => rfl
 | y :: r, k + 1, i, h => by
  have ih := slotRow_setIs r k i (by simpa using h)
  have e : slotRow (y :: r) = (.int .i64 y.is) :: (.int .u32 y.gen) :: (.int .i64 y.addr) :: slotRow r := rfl
  have e2 : slotRow ((y :: r).set (k + 1) { (y :: r)[k + 1] with is := i }) = (.int .i64 y.is) :: (.int .u32 y.gen) :: (.int .i64 y.addr) :: slotRow (r.set k { (y :: r)[k + 1] with is := i }) := rfl
  rw [e, e2, show (k + 1) * 3 = k * 3 + 1 + 1 + 1 by omega]
  simp only [List.set_cons_succ, List.getElem_cons_succ] at ih ⊢
  rw [ih]
theorem TabOn.mark {w : World} {pt : Nat} {t : Tab} {g cap k : Nat} (h : TabOn w pt t (.slice (some ⟨g, 0, none⟩) t.slots.length cap)) (i : Nat) (hk : k < t.slots.length) (hi : i ≤ 2) (hg : g ≠ pt) :
 TabOn (w.setCell ⟨g, k * 3, none⟩ (.int .i64 i)) pt { t with slots := t.slots.set k { t.slots[k] with is := i } } (.slice (some ⟨g, 0, none⟩) t.slots.length cap) where
 wf := ⟨h.wf.most, h.wf.last, by simpa using h.wf.len, fun y hy => by
  rcases List.mem_or_eq_of_mem_set hy with hy | rfl
  · exact h.wf.slot y hy
  · have := h.wf.slot _ (List.getElem_mem hk)
    exact ⟨hi, this.2⟩⟩
 hd := by rw [heap_setCell_ne (Ne.symm hg)]; exact h.hd
 row := by
  refine ⟨by rw [slotRow_length], ?_⟩
  rcases h.row.2 with ⟨h0, _⟩ | ⟨g', cap', cur, hv, hg', hb, h1, h2, h3, h4⟩
  · cases h0
  · injection hv with hv1 hv2 hv3
    injection hv1 with hv1
    injection hv1 with hv1
    subst hv1 hv3
    refine Or.inr ⟨g, cap, cur.setIfInBounds (k * 3) (.int .i64 i), ?_, hg', heap_setCell hb, by simpa using h1, h2, by simpa using h3, ?_⟩
    · simp
    · have hl := slotRow_length t.slots
      simp only [Array.toList_setIfInBounds, List.length_set]
      rw [show cur.toList = slotRow t.slots ++ cur.toList.drop (t.slots.length * 3) by rw [← h4, List.take_append_drop], List.set_append_left _ _ (by omega), List.take_left' (by simp; omega), slotRow_setIs t.slots k i hk]
theorem Keep.mark {Y : Nat → Prop} {w : World} {g k : Nat} {v : Value} (hy : ∀ b, Y b → b ≠ g) : Keep Y w (w.setCell ⟨g, k, none⟩ v) :=
 ⟨rfl, rfl, rfl, Nat.le_of_eq (size_setCell w _ _).symm, fun b hb => heap_setCell_ne (hy b hb)⟩
theorem Tab.close_some {t : Tab} {h k : Nat} (hk : t.of h = some k) (hlt : k < t.slots.length) : t.close h = (0, { t with slots := t.slots.set k { t.slots[k] with is := if t.slots[k].gen = t.last then 2 else 0 } }) := by
 unfold Tab.close
 rw [hk]
 simp only [List.getD_eq_getElem?_getD, List.getElem?_eq_getElem hlt, Option.getD_some]
theorem tab_close {w : World} {pt : Nat} {t : Tab} {v : Value} (h : TabOn w pt t v) (hh : Nat) (hl : hh < 18446744073709551616) (Y : Nat → Prop) (hy : ∀ b, Y b → some b ≠ v.ownBlock) :
 Calls Tryz.prog 101 #[PV pt, .int .u64 hh] w fun e w' => e = .returned (.int .i64 ((t.close hh).1 : Nat)) ∧ TabOn w' pt (t.close hh).2 v ∧ Keep Y w w' := by
 have ho := tab_of h hh hl
 cases hk : t.of hh with
 | none =>
  have he : t.close hh = (7, t) := by unfold Tab.close; rw [hk]
  rw [hk] at ho
  rw [he]
  have HO := kq2 ho h
  clear ho he hk h hy
  go_enter Tryz.func101, Tryz.ntmps101
  go_wp2_with fail
  refine HO.out.1.mono ?_
  rintro e w1 ⟨rfl, rfl⟩
  go_wp2_with fail
  go_ret
  exact ⟨rfl, HO.out.2, Keep.refl _ _⟩
 | some k =>
  obtain ⟨hlt, _⟩ := Tab.of_lt hk
  have he := Tab.close_some hk hlt
  rw [hk] at ho
  rw [he]
  obtain ⟨A, cap, hv, hcs⟩ := h.form
  obtain ⟨g, hA, ⟨k0, k1, k2⟩, ⟨f0, f1, f3⟩, hgp⟩ := hcs k hlt
  subst hv hA
  simp only [slotP] at ho
  have c1 : w.cell? ⟨pt, 1, none⟩ = some (.int .u32 t.last) := by rw [cell_of_block h.hd]; rfl
  have hm := fun i hi => h.mark (k := k) i hlt hi hgp
  have hgl := (h.wf.slot _ (List.getElem_mem hlt)).2.1
  have hll := h.wf.last
  obtain ⟨x, hx⟩ : ∃ x, t.slots[k] = x := ⟨_, rfl⟩
  rw [hx] at k0 k1 k2 hgl hm ⊢
  obtain ⟨xi, xg, xa⟩ := x
  simp only at k0 k1 k2 hgl hm ⊢
  obtain ⟨la, hla⟩ : ∃ la, t.last = la := ⟨_, rfl⟩
  rw [hla] at c1 hll ⊢
  have hne : ∀ b, Y b → b ≠ g := fun b hb e => hy b hb (by rw [e]; rfl)
  have HO := kq5 ho hm hlt hla hne
  clear ho he hk hcs h hy hm hx hla
  by_cases hgl2 : xg = la
  · rw [if_pos hgl2]
    have hge : ((xg : Int) == la) = true := by simp; omega
    go_enter Tryz.func101, Tryz.ntmps101
    go_wp2_with fail
    refine HO.out.1.mono ?_
    rintro e w1 ⟨rfl, rfl⟩
    go_wp2_with fail
    go_quiet (fail)
    go_wp2_with fail
    go_ret
    have hm0 : TabOn ((w.setCell ⟨g, k * 3, none⟩ (.int .i64 0)).drewN nq) pt { t with slots := t.slots.set k ⟨0, xg, xa⟩ } (.slice (some ⟨g, 0, none⟩) t.slots.length cap) := by
     have := HO.out.2.1 0 (by omega)
     exact ⟨this.wf, this.hd, this.row⟩
    have hm2 := TabOn.mark (t := { t with slots := t.slots.set k ⟨0, xg, xa⟩ }) (g := g) (cap := cap) (k := k) (by simpa using hm0) 2 (by simpa using HO.out.2.2.1) (by omega) hgp
    refine ⟨rfl, ?_, ((Keep.mark HO.out.2.2.2.2).trans (Keep.drewN _ _ nq)).trans (Keep.mark HO.out.2.2.2.2)⟩
    rw [← HO.out.2.2.2.1]
    simpa using hm2
  · rw [if_neg hgl2]
    have hge : ((xg : Int) == la) = false := by simp; omega
    go_enter Tryz.func101, Tryz.ntmps101
    go_wp2_with fail
    refine HO.out.1.mono ?_
    rintro e w1 ⟨rfl, rfl⟩
    go_wp2_with fail
    go_quiet (fail)
    go_wp2_with fail
    go_ret
    have hm0 : TabOn ((w.setCell ⟨g, k * 3, none⟩ (.int .i64 0)).drewN nq) pt { t with slots := t.slots.set k ⟨0, xg, xa⟩ } (.slice (some ⟨g, 0, none⟩) t.slots.length cap) := by
     have := HO.out.2.1 0 (by omega)
     exact ⟨this.wf, this.hd, this.row⟩
    rw [HO.out.2.2.2.1] at hm0
    exact ⟨rfl, hm0, (Keep.mark HO.out.2.2.2.2).trans (Keep.drewN _ _ nq)⟩
