/- The heap in memory; none, get, put, clear: the walks. The handles' table in memory; none, of, At: the walks. The handles' table: At, New, name: the walks. The handles' table: Open: the walk. -/
import Derived.Test.YtepdkbmnkjfcpaaGreatDoorVab
import Derived.Test.YtepdkbmnkjfcpaaGreatDoorVad
import Derived.Laws.AppendOwn
import Derived.OwnWalk
set_option maxRecDepth 100000
set_option maxHeartbeats 800000
namespace Go.Proofs.YtepdkbmnkjfcpaaGreatDoor
open Go.RowKit Go.BigFrame Go.Maps Go.WideMaps Lf
abbrev tabB : Nat := 1
theorem SlabOn.of_keep {w w' : World} {pa pm : Nat} {s : Slab} {Y : Nat → Prop} {blk : Nat → Nat} (h : SlabOn w pa pm s Y blk) (hs : w.heap.size ≤ w'.heap.size) (hb : ∀ k, k < w.heap.size → (k = pa ∨ k = pm ∨ ∃ p ∈ s.keys, k = blk p) → w'.heap[k]? = w.heap[k]?) : SlabOn w' pa pm s Y blk where
  wf := h.wf
  hd := by rw [hb pa (Array.getElem?_eq_some_iff.1 h.hd).1 (Or.inl rfl)]; exact h.hd
  map := ownsMap_of_block h.map (hb pm h.map.lt (Or.inr (Or.inl rfl)))
  pg := fun x hx => by
    have h1 := h.pg x hx
    rw [hb _ (Array.getElem?_eq_some_iff.1 h1).1 (Or.inr (Or.inr ⟨x.1, keys_mem.2 ⟨_, hx⟩, rfl⟩))]
    exact h1
  inj := h.inj
  ya := h.ya
  ym := h.ym
  yp := h.yp
  yl := fun k hk => Nat.lt_of_lt_of_le (h.yl k hk) hs
theorem SlabOn.below {w w' : World} {pa pm : Nat} {s : Slab} {Y : Nat → Prop} {blk : Nat → Nat} (h : SlabOn w pa pm s Y blk) (hb : Below w.heap.size w w') : SlabOn w' pa pm s Y blk :=
  h.of_keep hb.size fun k hk _ => hb.block k hk
structure HeapOn (w : World) (ph pa pm : Nat) (s : Slab) (Y : Nat → Prop) : Prop where
  slab : ∃ blk, SlabOn w pa pm s Y blk
  hp : w.heap[ph]? = some (.cells #[PV pa] 160 (0, 0))
  yh : Y ph
  tab : Tab64 w
  yt : Y tabB
theorem HeapOn.yl {w : World} {ph pa pm : Nat} {s : Slab} {Y : Nat → Prop} (h : HeapOn w ph pa pm s Y) : ∀ k, Y k → k < w.heap.size := by
  obtain ⟨blk, hs⟩ := h.slab
  exact hs.yl
theorem HeapOn.wf {w : World} {ph pa pm : Nat} {s : Slab} {Y : Nat → Prop} (h : HeapOn w ph pa pm s Y) : SlabWF s := by
  obtain ⟨blk, hs⟩ := h.slab
  exact hs.wf
theorem HeapOn.step {w w' : World} {ph pa pm : Nat} {s s' : Slab} {Y : Nat → Prop} (h : HeapOn w ph pa pm s Y) (hs : ∃ blk, SlabOn w' pa pm s' Y blk) (hk : Keep Y w w') : HeapOn w' ph pa pm s' Y where
  slab := hs
  hp := by rw [hk.block ph h.yh]; exact h.hp
  yh := h.yh
  tab := h.tab.of_block (hk.block _ h.yt)
  yt := h.yt
theorem HeapOn.below {w w' : World} {ph pa pm : Nat} {s : Slab} {Y : Nat → Prop} (h : HeapOn w ph pa pm s Y) (hb : Below w.heap.size w w') : HeapOn w' ph pa pm s Y := by
  obtain ⟨blk, hs⟩ := h.slab
  exact h.step ⟨blk, hs.below hb⟩ (Keep.of_below hb hs.yl)
theorem HeapOn.keep {w w' : World} {ph pa pm : Nat} {s : Slab} {Y : Nat → Prop} (h : HeapOn w ph pa pm s Y) (hb : Below w.heap.size w w') : Keep Y w w' := Keep.of_below hb h.yl
theorem HeapOn.cell {w : World} {ph pa pm : Nat} {s : Slab} {Y : Nat → Prop} (h : HeapOn w ph pa pm s Y) : w.cell? ⟨ph, 0, none⟩ = some (PV pa) := by rw [cell_of_block h.hp]; rfl
theorem HeapOn.lt {w : World} {ph pa pm : Nat} {s : Slab} {Y : Nat → Prop} (h : HeapOn w ph pa pm s Y) : ph < w.heap.size := h.yl _ h.yh
theorem SlabOn.mono {w : World} {pa pm : Nat} {s : Slab} {Y Z : Nat → Prop} {blk : Nat → Nat} (h : SlabOn w pa pm s Y blk) (hz : ∀ k, Z k → Y k) : SlabOn w pa pm s Z blk :=
  ⟨h.wf, h.hd, h.map, h.pg, h.inj, fun k => h.ya (hz _ k), fun k => h.ym (hz _ k), fun p hp k => h.yp p hp (hz _ k), fun k hk => h.yl k (hz k hk)⟩
abbrev And1 (Y : Nat → Prop) (b : Nat) : Nat → Prop := fun k => Y k ∨ k = b
theorem SlabOn.own {w : World} {pa pm : Nat} {s : Slab} {Y : Nat → Prop} {blk : Nat → Nat} (h : SlabOn w pa pm s Y blk) (o : Obj) : SlabOn (w.alloc o) pa pm s (And1 Y w.heap.size) blk := by
  have h' := h.below ((Below.refl _ w).alloc (Nat.le_refl _) o)
  have hpa := (Array.getElem?_eq_some_iff.1 h.hd).1
  refine ⟨h'.wf, h'.hd, h'.map, h'.pg, h'.inj, ?_, ?_, ?_, ?_⟩
  · rintro (k | k)
    · exact h.ya k
    · omega
  · rintro (k | k)
    · exact h.ym k
    · have := h.map.lt; omega
  · rintro p hp (k | k)
    · exact h.yp p hp k
    · obtain ⟨l, hl⟩ := keys_mem.1 hp
      have := (Array.getElem?_eq_some_iff.1 (h.pg _ hl)).1
      simp only at this
      omega
  · rintro k (hk | hk)
    · have := h.yl k hk; simp; omega
    · simp; omega
theorem HeapOn.own {w : World} {ph pa pm : Nat} {s : Slab} {Y : Nat → Prop} (h : HeapOn w ph pa pm s Y) (o : Obj) : HeapOn (w.alloc o) ph pa pm s (And1 Y w.heap.size) := by
  have h' := h.below ((Below.refl _ w).alloc (Nat.le_refl _) o)
  obtain ⟨blk, hs⟩ := h.slab
  exact ⟨⟨blk, hs.own o⟩, h'.hp, Or.inl h.yh, h'.tab, Or.inl h.yt⟩
theorem HeapOn.mono {w : World} {ph pa pm : Nat} {s : Slab} {Y Z : Nat → Prop} (h : HeapOn w ph pa pm s Y) (hz : ∀ k, Z k → Y k) (h1 : Z ph) (h2 : Z tabB) : HeapOn w ph pa pm s Z := by
  obtain ⟨blk, hs⟩ := h.slab
  exact ⟨⟨blk, hs.mono hz⟩, h.hp, h1, h.tab, h2⟩
theorem HeapOn.drewN {w : World} {ph pa pm : Nat} {s : Slab} {Y : Nat → Prop} (h : HeapOn w ph pa pm s Y) (n : Nat) : HeapOn (w.drewN n) ph pa pm s Y := h.below ⟨rfl, rfl, rfl, Nat.le_refl _, fun _ _ => rfl⟩
theorem HeapOn.read {w : World} {ph pa pm : Nat} {s : Slab} {Y : Nat → Prop} (h : HeapOn w ph pa pm s Y) (a : Nat) (ha : a ≤ 4611686018427387904) :
    Calls Tryz.prog 98 #[PV pa, .int .i64 a] w fun e w' => e = .returned (.tuple #[.int .u64 (s.rd a : Nat), .int .i64 (s.err a : Nat)]) ∧ w = w' := by
  obtain ⟨blk, hs⟩ := h.slab
  exact slab_read hs a ha
theorem HeapOn.write {w : World} {ph pa pm : Nat} {s : Slab} {Y : Nat → Prop} (h : HeapOn w ph pa pm s Y) (a x : Nat) (ha : a ≤ 4611686018427387904) (hx : x < 18446744073709551616) :
    Calls Tryz.prog 128 #[PV pa, .int .i64 a, .int .u64 x] w fun e w' => e = .returned (.int .i64 (s.err a : Nat)) ∧ HeapOn w' ph pa pm (s.wr a x) Y ∧ Keep Y w w' := by
  obtain ⟨blk, hs⟩ := h.slab
  refine (slab_write hs a x ha hx).mono ?_
  rintro e w' ⟨h1, h2, h3⟩
  exact ⟨h1, h.step ⟨_, h2⟩ h3, h3⟩
theorem HeapOn.write' {w : World} {ph pa pm : Nat} {s : Slab} {Y : Nat → Prop} (h : HeapOn w ph pa pm s Y) (a x : Nat) {ai xi : Int} (ha : a ≤ 4611686018427387904) (hx : x < 18446744073709551616) (hai : ai = (a : Int)) (hxi : xi = (x : Int)) :
    Calls Tryz.prog 128 #[PV pa, .int .i64 ai, .int .u64 xi] w fun e w' => e = .returned (.int .i64 (s.err a : Nat)) ∧ HeapOn w' ph pa pm (s.wr a x) Y ∧ Keep Y w w' := by
  subst hai hxi
  exact h.write a x ha hx
theorem HeapOn.rd_lt {w : World} {ph pa pm : Nat} {s : Slab} {Y : Nat → Prop} (h : HeapOn w ph pa pm s Y) (a : Nat) : s.rd a < 18446744073709551616 := by
  obtain ⟨blk, hs⟩ := h.slab
  exact hs.rd_lt a
theorem heap_none {w : World} {ph pa pm : Nat} {s : Slab} {Y : Nat → Prop} (h : HeapOn w ph pa pm s Y) :
    Calls Tryz.prog 131 #[PV ph] w fun e w' => e = .returned (.bool false) ∧ w = w' := by
  have c1 := h.cell
  clear h
  go_enter Tryz.func131, Tryz.ntmps131
  go_wp2
  go_ret
  exact ⟨rfl, rfl⟩
def headV (x : Head) : Value := .agg #[.int .i64 x.kind, .int .i64 x.n, .int .u64 x.w]
theorem heap_get {w : World} {ph pa pm : Nat} {s : Slab} {Y : Nat → Prop} (h : HeapOn w ph pa pm s Y) (p : Nat) (hp : p ≤ 1048576) :
    Calls Tryz.prog 181 #[PV ph, .int .i64 p] w fun e w' => e = .returned (headV (getH s p)) ∧ Below w.heap.size w w' := by
  have c1 := h.cell
  have hlt := h.lt
  have r1 := fun W (hb : Below w.heap.size w W) => (h.below hb).read (p * 64) (by omega)
  have r2 := fun W (hb : Below w.heap.size w W) => (h.below hb).read (p * 64 + 1) (by omega)
  have l1 := h.rd_lt (p * 64)
  have he : getH s p = ⟨s.rd (p * 64) % 256, s.rd (p * 64) / 256, s.rd (p * 64 + 1)⟩ := rfl
  rw [he]
  clear he h
  generalize s.rd (p * 64) = a at *
  generalize s.rd (p * 64 + 1) = b at *
  generalize s.err (p * 64) = e1 at *
  generalize s.err (p * 64 + 1) = e2 at *
  rw [show ((p * 64 : Nat) : Int) = (p : Int) * 64 from by simp] at r1
  rw [show ((p * 64 + 1 : Nat) : Int) = (p : Int) * 64 + 1 from by simp] at r2
  have HR := Lib.hid (And.intro r1 r2)
  clear r1 r2
  have hand := bits_and_u64_nat a 255 l1 (by decide)
  rw [show a &&& 255 = a % 256 from Nat.and_two_pow_sub_one_eq_mod a 8] at hand
  have hb0 : Below w.heap.size w (w.alloc (.cells #[.int .i64 0, .int .i64 0, .int .u64 0] 204)) := (Below.refl _ w).alloc (Nat.le_refl _) _
  go_enter Tryz.func181, Tryz.ntmps181
  go_wp2_with fail
  refine (HR.out.1 _ hb0).mono ?_
  rintro e w1 ⟨rfl, rfl⟩
  go_wp2_with fail
  refine (HR.out.2 _ hb0).mono ?_
  rintro e w1 ⟨rfl, rfl⟩
  go_wp2_with fail
  have hw : wrap64 (bits BinOp.and IntKind.u64 (a : Int) 255) = ((a % 256 : Nat) : Int) := by
    rw [show (255 : Int) = ((255 : Nat) : Int) from rfl, hand]
    unfold wrap64
    omega
  simp only [hw]
  exact bodyPost_ret (v := headV ⟨a % 256, a / 256, b⟩) (by simp [results, Tryz.f181, go_sem, headV]) rfl ⟨rfl, (Below.refl _ w).alloc (Nat.le_refl _) _⟩
theorem heap_put {w : World} {ph pa pm : Nat} {s : Slab} {Y : Nat → Prop} (h : HeapOn w ph pa pm s Y) (p : Nat) (x : Head) (hp : p ≤ 1048576) (hk : x.kind < 256) (hn : x.n < 72057594037927936) (hxw : x.w < 18446744073709551616) :
    Calls Tryz.prog 174 #[PV ph, .int .i64 p, headV x] w fun e w' => e = .returned (.tuple #[]) ∧ HeapOn w' ph pa pm (putH s p x) Y ∧ Keep Y w w' := by
  obtain ⟨kd, xn, xw⟩ := x
  simp only at hk hn hxw
  simp only [headV]
  have ho := h.own (.cells #[.int .i64 kd, .int .i64 xn, .int .u64 xw] 204)
  have hwd : kd + xn * 256 < 18446744073709551616 := by omega
  have hor : bits BinOp.or IntKind.u64 (kd : Int) ((xn : Int) * 256) = ((kd + xn * 256 : Nat) : Int) := by
    rw [show ((xn : Int) * 256) = ((xn * 256 : Nat) : Int) by simp, bits_or_u64_nat _ _ (by omega) (by omega)]
    congr 1
    have h8 := Nat.shiftLeft_add_eq_or_of_lt (i := 8) (b := kd) (by omega) xn
    rw [Nat.shiftLeft_eq] at h8
    rw [Nat.or_comm, Nat.add_comm]
    exact h8.symm
  have HOR := Lib.hid hor
  clear hor
  have hmu : IntKind.u64.wrap ((xn : Int) * 256) = ((xn * 256 : Nat) : Int) := by rw [IntKind.wrap_u64]; omega
  have hput : putH s p ⟨kd, xn, xw⟩ = (s.wr (p * 64) (kd + xn * 256)).wr (p * 64 + 1) xw := rfl
  rw [hput]
  obtain ⟨W0, hW0⟩ : ∃ W0, w.alloc (.cells #[.int .i64 kd, .int .i64 xn, .int .u64 xw] 204) = W0 := ⟨_, rfl⟩
  have hnew : W0.heap[w.heap.size]? = some (.cells #[.int .i64 kd, .int .i64 xn, .int .u64 xw] 204 (0, 0)) := by
    rw [← hW0]; show (w.heap.push _)[w.heap.size]? = _; simp
  have hbel : Below w.heap.size w W0 := by rw [← hW0]; exact (Below.refl _ w).alloc (Nat.le_refl _) _
  have b0 : W0.cell? ⟨w.heap.size, 0, none⟩ = some (.int .i64 kd) := by rw [cell_of_block hnew]; rfl
  have b1 : W0.cell? ⟨w.heap.size, 1, none⟩ = some (.int .i64 xn) := by rw [cell_of_block hnew]; rfl
  have b2 : W0.cell? ⟨w.heap.size, 2, none⟩ = some (.int .u64 xw) := by rw [cell_of_block hnew]; rfl
  rw [hW0] at ho
  have c1 := ho.cell
  have hkeep := h.keep hbel
  have hyz := And.intro h.yh h.yt
  have HO := Lib.hid (And.intro ho (And.intro hkeep (And.intro hyz (And.intro hW0 hnew))))
  clear ho h hW0 hnew hbel hput hkeep hyz
  go_enter Tryz.func174, Tryz.ntmps174
  go_wp2_with fail
  rw [HO.out.2.2.2.1]
  refine wp_region_quiet_tail (C := fun w' => ∃ q : Nat, w' = (W0).drewN q) 14 (by kernel_rfl) (by kernel_rfl) ⟨1, rfl⟩ ?_
  simp only [List.take_succ_cons, List.take_zero, List.drop_succ_cons, List.drop_zero]
  repeat (first | go_big_quiet_skip | (go_big_quiet_want; go_big_quiet_op; first | go_big_quiet_on))
  refine wpQuiet_nil ?_
  rintro _ ⟨q, rfl⟩
  go_wp2_with fail
  refine ((HO.out.1.drewN q).write' (p * 64) (kd + xn * 256) (by omega) hwd (by simp) HOR.out).mono ?_
  rintro e w1 ⟨rfl, ho1, hk1⟩
  have c1 := ho1.cell
  have b2 : w1.cell? ⟨w.heap.size, 2, none⟩ = some (.int .u64 xw) := by rw [hk1.cell (p := ⟨w.heap.size, 2, none⟩) (Or.inr rfl)]; exact b2
  have H1 := Lib.hid (And.intro ho1 (hk1.mono (Z := Y) fun k hk => Or.inl hk))
  clear ho1 hk1 b0 b1
  go_wp2_with fail
  refine wp_region_quiet_tail (C := fun w' => ∃ q : Nat, w' = (w1).drewN q) 9 (by kernel_rfl) (by kernel_rfl) ⟨1, rfl⟩ ?_
  simp only [List.take_succ_cons, List.take_zero, List.drop_succ_cons, List.drop_zero]
  repeat (first | go_big_quiet_skip | (go_big_quiet_want; go_big_quiet_op; first | go_big_quiet_on))
  refine wpQuiet_nil ?_
  rintro _ ⟨q, rfl⟩
  go_wp2_with fail
  refine ((H1.out.1.drewN q).write' (p * 64 + 1) xw (by omega) hxw (by simp) rfl).mono ?_
  rintro e w2 ⟨rfl, ho2, hk2⟩
  have H2 := Lib.hid (And.intro (ho2.mono (fun k hk => Or.inl hk) HO.out.2.2.1.1 HO.out.2.2.1.2) (hk2.mono (Z := Y) fun k hk => Or.inl hk))
  clear ho2 hk2
  go_wp2_with fail
  go_end0
  exact ⟨rfl, H2.out.1, HO.out.2.1.trans ((Keep.drewN _ _ _).trans (H1.out.2.trans ((Keep.drewN _ _ _).trans H2.out.2)))⟩
theorem heap_clear {w : World} {ph pa pm : Nat} {s : Slab} {Y : Nat → Prop} (h : HeapOn w ph pa pm s Y) (a n : Nat) (ha : a ≤ 2305843009213693952) (hn : n ≤ 100000) :
    Calls Tryz.prog 220 #[PV ph, .int .i64 a, .int .i64 n] w fun e w' => e = .returned (.tuple #[]) ∧ HeapOn w' ph pa pm (clearH s a n) Y ∧ Keep Y w w' := by
  have H := Lib.hid h
  clear h
  go_enter Tryz.func220, Tryz.ntmps220
  go_wp2_with fail
  go_loopw [6, 8] (fun _ i wr => ∃ k : Nat, k ≤ n ∧ i = .int .i64 k ∧ Hid (HeapOn wr ph pa pm (s.zero a k) Y ∧ Keep Y w wr)) (fun _ i _ => n - (intOf i).toNat)
  case atStart => exact ⟨0, by omega, rfl, H.out, Keep.refl _ _⟩
  case round =>
    obtain ⟨k, hk, rfl, hin⟩ := hrel
    have c1 := hin.out.1.cell
    by_cases hlt : k < n
    · go_wp2_with fail
      refine (hin.out.1.write' (a + k) 0 (by omega) (by decide) (by simp) rfl).mono ?_
      rintro e w1 ⟨rfl, h1, k1⟩
      have H1 := Lib.hid (And.intro h1 (hin.out.2.trans k1))
      clear h1 k1 c1
      go_wp2_with fail
      go_roundw
      case rel => exact ⟨k + 1, by omega, by go_num, H1.out⟩
      case measure => simp [intOf]; omega
    · obtain rfl : k = n := by omega
      go_wp2_with fail
      go_end0
      exact ⟨rfl, hin.out⟩
end Go.Proofs.YtepdkbmnkjfcpaaGreatDoor
namespace Go.Proofs.YtepdkbmnkjfcpaaGreatDoor
open Go.RowKit Go.BigFrame Go.Maps Go.WideMaps Lf
structure TabWF (t : Tab) : Prop where
  most : 1 ≤ t.most ∧ t.most ≤ 65536
  last : 1 ≤ t.last ∧ t.last < 4294967296
  len : t.slots.length ≤ t.most
  slot : ∀ x ∈ t.slots, x.is ≤ 2 ∧ x.gen < 4294967296 ∧ x.addr ≤ 4611686018427387903
def slotCells (x : Slot) : List Value := [.int .i64 x.is, .int .u32 x.gen, .int .i64 x.addr]
def slotRow (l : List Slot) : List Value := l.flatMap slotCells
structure TabOn (w : World) (pt : Nat) (t : Tab) (v : Value) : Prop where
  wf : TabWF t
  hd : w.heap[pt]? = some (.cells #[.int .i64 t.most, .int .u32 t.last, v] 156 (0, 0))
  row : w.ownsRow 0 250 3 v t.slots.length (slotRow t.slots)
theorem slotRow_length (l : List Slot) : (slotRow l).length = l.length * 3 := by
  induction l with
  | nil => rfl
  | cons x r ih => simp only [slotRow, List.flatMap_cons, List.length_append, slotCells, List.length_cons, List.length_nil] at ih ⊢; omega
theorem slotRow_get (l : List Slot) : ∀ (k j : Nat) (h : k < l.length), j < 3 → (slotRow l)[k * 3 + j]? = (slotCells l[k])[j]? := by
  induction l with
  | nil => intro k j h; simp at h
  | cons x r ih =>
    intro k j h hj
    cases k with
    | zero =>
      simp only [slotRow, List.flatMap_cons, Nat.zero_mul, Nat.zero_add, List.getElem_cons_zero]
      rw [List.getElem?_append_left (by simp [slotCells]; omega)]
    | succ k =>
      simp only [slotRow, List.flatMap_cons, List.getElem_cons_succ]
      rw [List.getElem?_append_right (by simp [slotCells]; omega), show (k + 1) * 3 + j - (slotCells x).length = k * 3 + j by simp [slotCells]; omega]
      exact ih k j (by simpa using h) hj
theorem TabOn.cells {w : World} {pt : Nat} {t : Tab} {v : Value} (h : TabOn w pt t v) :
    (t.slots = [] ∧ v = .slice none 0 0) ∨ ∃ g cap, v = .slice (some ⟨g, 0, none⟩) t.slots.length cap ∧ ∀ (k : Nat) (hk : k < t.slots.length),
      w.cell? ⟨g, k * 3, none⟩ = some (.int .i64 t.slots[k].is) ∧ w.cell? ⟨g, k * 3 + 1, none⟩ = some (.int .u32 t.slots[k].gen) ∧ w.cell? ⟨g, k * 3 + 2, none⟩ = some (.int .i64 t.slots[k].addr) := by
  rcases h.row.2 with ⟨h0, hx⟩ | ⟨g, cap, cur, hv, _, hb, h1, _, h3, h4⟩
  · exact Or.inl ⟨List.length_eq_zero_iff.1 hx, h0⟩
  · refine Or.inr ⟨g, cap, hv, fun k hk => ?_⟩
    have key : ∀ j, j < 3 → w.cell? ⟨g, k * 3 + j, none⟩ = (slotCells t.slots[k])[j]? := fun j hj => by
      rw [cell_of_block hb, ← slotRow_get t.slots k j hk hj, ← h4, List.getElem?_take_of_lt (by omega), Array.getElem?_toList]
    exact ⟨key 0 (by decide), key 1 (by decide), key 2 (by decide)⟩
theorem tab_none {w : World} {pt : Nat} {t : Tab} {v : Value} (h : TabOn w pt t v) :
    Calls Tryz.prog 177 #[PV pt] w fun e w' => e = .returned (.bool false) ∧ w = w' := by
  have c0 : w.cell? ⟨pt, 0, none⟩ = some (.int .i64 t.most) := by rw [cell_of_block h.hd]; rfl
  have hm := h.wf.most
  have hb : ((t.most : Int) == 0) = false := by simp; omega
  clear h
  go_enter Tryz.func177, Tryz.ntmps177
  go_wp2
  go_ret
  exact ⟨rfl, rfl⟩
def slotP (v : Value) (k : Nat) : Value := match v with | .slice (some ⟨g, 0, none⟩) _ _ => .pointer (some ⟨g, k * 3, none⟩) | _ => .pointer none
theorem tab_of {w : World} {pt : Nat} {t : Tab} {v : Value} (h : TabOn w pt t v) (hh : Nat) (hl : hh < 18446744073709551616) :
    Calls Tryz.prog 170 #[PV pt, .int .u64 hh] w fun e w' => e = .returned (match t.of hh with | some k => .tuple #[slotP v k, .int .i64 0] | none => .tuple #[.pointer none, .int .i64 7]) ∧ w = w' := by
  have hno := tab_none h
  have c2 : w.cell? ⟨pt, 2, none⟩ = some v := by rw [cell_of_block h.hd]; rfl
  have hand : bits BinOp.and IntKind.u64 (hh : Int) 4294967295 = ((hh % 4294967296 : Nat) : Int) := by
    rw [show (4294967295 : Int) = ((4294967295 : Nat) : Int) from rfl, bits_and_u64_nat _ _ hl (by decide)]
    congr 1
    exact Nat.and_two_pow_sub_one_eq_mod hh 32
  obtain ⟨q, hq⟩ : ∃ q, hh % 4294967296 = q := ⟨_, rfl⟩
  obtain ⟨g, hg⟩ : ∃ g, hh / 4294967296 = g := ⟨_, rfl⟩
  have hshr : (hh : Int) / 4294967296 = (g : Int) := by omega
  have hq2 : q < 4294967296 := by omega
  have hg2 : g < 4294967296 := by omega
  rw [hq] at hand
  obtain ⟨R, hR⟩ : ∃ R, (match t.of hh with | some k => Value.tuple #[slotP v k, .int .i64 0] | none => .tuple #[.pointer none, .int .i64 7]) = R := ⟨_, rfl⟩
  rw [hR]
  have hof : t.of hh = if q = 0 then none else match t.slots[q - 1]? with | none => none | some x => if x.is = 1 ∧ x.gen = g then some (q - 1) else none := by
    unfold Tab.of
    simp only [hq, hg]
    rfl
  by_cases h0 : q = 0
  · rw [h0, if_pos rfl] at hof
    have hRe : R = .tuple #[.pointer none, .int .i64 7] := by rw [← hR, hof]
    subst h0
    have HG := Lib.hid (And.intro hno hRe)
    clear hno hRe hR hof h hq hg hshr
    go_enter Tryz.func170, Tryz.ntmps170
    go_wp2_with fail
    refine HG.out.1.mono ?_
    rintro e w1 ⟨rfl, rfl⟩
    go_wp2_with fail
    go_ret2
    obtain rfl := HG.out.2
    exact ⟨rfl, rfl⟩
  · rw [if_neg h0] at hof
    rcases h.cells with ⟨he, hv⟩ | ⟨b, cap, hv, hcs⟩
    · rw [he] at hof
      have hRe : R = .tuple #[.pointer none, .int .i64 7] := by rw [← hR, hof]; rfl
      subst hv
      have h1 : ¬ ((q : Int) - 1 < 0) := by omega
      have HG := Lib.hid (And.intro hno hRe)
      clear hno hRe hR hof h hq hg he hshr
      go_enter Tryz.func170, Tryz.ntmps170
      go_wp2_with fail
      refine HG.out.1.mono ?_
      rintro e w1 ⟨rfl, rfl⟩
      go_wp2_with fail
      go_ret2
      obtain rfl := HG.out.2
      exact ⟨rfl, rfl⟩
    · obtain ⟨k, rfl⟩ : ∃ k, q = k + 1 := ⟨q - 1, by omega⟩
      rw [Nat.add_sub_cancel] at hof
      have hlen := h.wf.len
      have hmost := h.wf.most
      by_cases hk : k < t.slots.length
      · obtain ⟨k0, k1, _⟩ := hcs k hk
        rw [List.getElem?_eq_getElem hk] at hof
        simp only at hof
        have hgl := (h.wf.slot _ (List.getElem_mem hk)).2.1
        clear hcs
        generalize t.slots[k] = x at *
        clear h
        generalize hL : t.slots.length = L at *
        obtain ⟨xi, xg, xa⟩ := x
        simp only at hof k0 k1 hgl
        subst hv
        have hkl : (k : Int) < L := by omega
        by_cases h1 : xi = 1
        · by_cases h2 : xg = g
          · have hRe : R = .tuple #[.pointer (some ⟨b, k * 3, none⟩), .int .i64 0] := by rw [← hR, hof, if_pos ⟨h1, h2⟩]; rfl
            subst h1 h2
            have HG := Lib.hid (And.intro hno hRe)
            clear hno hRe hR hof hq hg hL h0
            go_enter Tryz.func170, Tryz.ntmps170
            go_wp2_with fail
            refine HG.out.1.mono ?_
            rintro e w1 ⟨rfl, rfl⟩
            go_wp2_with fail
            go_ret2
            obtain rfl := HG.out.2
            exact ⟨rfl, rfl⟩
          · have hRe : R = .tuple #[.pointer none, .int .i64 7] := by rw [← hR, hof, if_neg (fun hh => h2 hh.2)]
            have hq2 : ((xg : Int) != g) = true := by simp; omega
            subst h1
            have HG := Lib.hid (And.intro hno hRe)
            clear hno hRe hR hof hq hg hL h0 h2
            go_enter Tryz.func170, Tryz.ntmps170
            go_wp2_with fail
            refine HG.out.1.mono ?_
            rintro e w1 ⟨rfl, rfl⟩
            go_wp2_with fail
            go_ret2
            obtain rfl := HG.out.2
            exact ⟨rfl, rfl⟩
        · have hRe : R = .tuple #[.pointer none, .int .i64 7] := by rw [← hR, hof, if_neg (fun hh => h1 hh.1)]
          have hq2 : ((xi : Int) != 1) = true := by simp; omega
          have HG := Lib.hid (And.intro hno hRe)
          clear hno hRe hR hof hq hg hL h0 h1
          go_enter Tryz.func170, Tryz.ntmps170
          go_wp2_with fail
          refine HG.out.1.mono ?_
          rintro e w1 ⟨rfl, rfl⟩
          go_wp2_with fail
          go_ret2
          obtain rfl := HG.out.2
          exact ⟨rfl, rfl⟩
      · rw [List.getElem?_eq_none (by omega)] at hof
        have hRe : R = .tuple #[.pointer none, .int .i64 7] := by rw [← hR, hof]
        clear hcs h
        generalize hL : t.slots.length = L at *
        subst hv
        have hkl : (L : Int) ≤ k := by omega
        have HG := Lib.hid (And.intro hno hRe)
        clear hno hRe hR hof hq hg hL h0
        go_enter Tryz.func170, Tryz.ntmps170
        go_wp2_with fail
        refine HG.out.1.mono ?_
        rintro e w1 ⟨rfl, rfl⟩
        go_wp2_with fail
        go_ret2
        obtain rfl := HG.out.2
        exact ⟨rfl, rfl⟩
end Go.Proofs.YtepdkbmnkjfcpaaGreatDoor
namespace Go.Proofs.YtepdkbmnkjfcpaaGreatDoor
open Go.RowKit Go.BigFrame Go.Maps Go.WideMaps Lf
theorem Tab.of_lt {t : Tab} {h k : Nat} (hk : t.of h = some k) : ∃ hlt : k < t.slots.length, t.slots[k].is = 1 ∧ t.slots[k].gen = h / 4294967296 ∧ k + 1 = h % 4294967296 := by
  unfold Tab.of at hk
  simp only at hk
  split at hk
  · cases hk
  · rename_i h0
    split at hk
    · cases hk
    · rename_i x hx
      split at hk
      · rename_i hc
        injection hk with hk
        obtain ⟨hlt, hxe⟩ := List.getElem?_eq_some_iff.1 hx
        subst hk
        refine ⟨hlt, ?_, ?_, by omega⟩
        · rw [hxe]; exact hc.1
        · rw [hxe]; exact hc.2
      · cases hk
theorem tab_at_eq {t : Tab} {h k : Nat} (hk : t.of h = some k) (hlt : k < t.slots.length) : t.at h = (t.slots[k].addr, 0) := by
  unfold Tab.at
  rw [hk]
  simp only
  rw [List.getD_eq_getElem?_getD, List.getElem?_eq_getElem hlt]
  rfl
theorem tab_at {w : World} {pt : Nat} {t : Tab} {v : Value} (h : TabOn w pt t v) (hh : Nat) (hl : hh < 18446744073709551616) :
    Calls Tryz.prog 164 #[PV pt, .int .u64 hh] w fun e w' => e = .returned (.tuple #[.int .i64 ((t.at hh).1 : Nat), .int .i64 ((t.at hh).2 : Nat)]) ∧ w = w' := by
  have ho := tab_of h hh hl
  cases hk : t.of hh with
  | none =>
    have he : t.at hh = (0, 7) := by unfold Tab.at; rw [hk]
    rw [hk] at ho
    rw [he]
    have HO := Lib.hid ho
    clear ho he hk h
    go_enter Tryz.func164, Tryz.ntmps164
    go_wp2_with fail
    refine HO.out.mono ?_
    rintro e w1 ⟨rfl, rfl⟩
    go_wp2_with fail
    go_ret2
    exact ⟨rfl, rfl⟩
  | some k =>
    obtain ⟨hlt, _⟩ := Tab.of_lt hk
    have he := tab_at_eq hk hlt
    rw [hk] at ho
    rw [he]
    rcases h.cells with ⟨h0, _⟩ | ⟨b, cap, hv, hcs⟩
    · rw [h0] at hlt; simp at hlt
    · have k2 := (hcs k hlt).2.2
      generalize t.slots[k] = x at *
      rw [hv] at ho
      simp only [slotP] at ho
      have HO := Lib.hid ho
      clear ho he hk hcs h hv
      go_enter Tryz.func164, Tryz.ntmps164
      go_wp2_with fail
      refine HO.out.mono ?_
      rintro e w1 ⟨rfl, rfl⟩
      go_wp2_with fail
      go_ret2
      exact ⟨rfl, rfl⟩
theorem tab_new (n l : Nat) (w : World) (hn : 1 ≤ n ∧ n ≤ 65536) (hl : 1 ≤ l ∧ l < 4294967296) :
    Calls Tryz.prog 63 #[.int .i64 n, .int .u32 l] w fun e w' => e = .returned (.tuple #[PV w.heap.size, .int .i64 0]) ∧ TabOn w' w.heap.size ⟨n, l, []⟩ (.slice none 0 0) ∧ Below w.heap.size w w' := by
  obtain ⟨h1, h2⟩ := hn
  obtain ⟨h3, h4⟩ := hl
  have ht : TabOn (w.alloc (.cells #[.int .i64 n, .int .u32 l, .slice none 0 0] 156)) w.heap.size ⟨n, l, []⟩ (.slice none 0 0) := by
    refine ⟨⟨⟨h1, h2⟩, ⟨h3, h4⟩, Nat.zero_le _, fun x hx => absurd hx (by simp)⟩, ?_, World.ownsRow_nil _ _ _ _⟩
    show (w.heap.push _)[w.heap.size]? = _
    simp
  have HT := Lib.hid ht
  clear ht
  go_enter Tryz.func63, Tryz.ntmps63
  go_wp2
  go_ret2
  exact ⟨rfl, HT.out, (Below.refl _ _).alloc (Nat.le_refl _) _⟩
theorem tab_name {w : World} {pt : Nat} {t : Tab} {v : Value} (h : TabOn w pt t v) (k : Nat) (hk : k < t.slots.length) :
    Calls Tryz.prog 178 #[PV pt, .int .i64 k] w fun e w' => e = .returned (.int .u64 (nameOf t.slots[k].gen k : Nat)) ∧ w = w' := by
  have c2 : w.cell? ⟨pt, 2, none⟩ = some v := by rw [cell_of_block h.hd]; rfl
  have hlen := h.wf.len
  have hmost := h.wf.most
  rcases h.cells with ⟨h0, _⟩ | ⟨b, cap, hv, hcs⟩
  · rw [h0] at hk; simp at hk
  · have k1 := (hcs k hk).2.1
    have hg := (h.wf.slot _ (List.getElem_mem hk)).2.1
    clear hcs
    generalize t.slots[k].gen = g at *
    clear h
    generalize hL : t.slots.length = L at *
    subst hv
    have hkl : (k : Int) < L := by omega
    have hor : bits BinOp.or IntKind.u64 ((g : Int) * 4294967296) ((k : Int) + 1) = ((nameOf g k : Nat) : Int) := by
      rw [show ((g : Int) * 4294967296) = ((g * 4294967296 : Nat) : Int) by simp, show ((k : Int) + 1) = ((k + 1 : Nat) : Int) by simp, bits_or_u64_nat _ _ (by omega) (by omega)]
      congr 1
      have h8 := Nat.shiftLeft_add_eq_or_of_lt (i := 32) (b := k + 1) (by omega) g
      rw [Nat.shiftLeft_eq] at h8
      exact h8.symm
    have HOR := Lib.hid hor
    clear hor hL
    go_enter Tryz.func178, Tryz.ntmps178
    go_wp2
    go_ret
    rw [← HOR.out]
    exact ⟨rfl, rfl⟩
end Go.Proofs.YtepdkbmnkjfcpaaGreatDoor
namespace Go.Proofs.YtepdkbmnkjfcpaaGreatDoor
open Go.RowKit Go.BigFrame Go.Maps Go.WideMaps Lf
theorem firstFree_eq : ∀ (l : List Slot) (k0 k : Nat), k ≤ l.length → (∀ j (h : j < l.length), j < k → l[j].is ≠ 0) → (k = l.length ∨ ∃ h : k < l.length, l[k].is = 0) → firstFree l k0 = k0 + k
  | [], k0, k, hk, _, _ => by
    have : k = 0 := by simpa using hk
    subst this; rfl
  | x :: r, k0, k, hk, h1, h2 => by
    unfold firstFree
    cases k with
    | zero =>
      rcases h2 with h2 | ⟨h, h2⟩
      · simp at h2
      · rw [if_pos (by simpa using h2)]; rfl
    | succ k =>
      have hx := h1 0 (by simp) (by omega)
      rw [if_neg (by simpa using hx), firstFree_eq r (k0 + 1) k (by simpa using hk) (fun j h hj => by have := h1 (j + 1) (by simpa using h) (by omega); simpa using this) (by
        rcases h2 with h2 | ⟨h, h2⟩
        · exact Or.inl (by simpa using h2)
        · exact Or.inr ⟨by simpa using h, by simpa using h2⟩)]
      omega
theorem slotRow_set : ∀ (l : List Slot) (k : Nat) (x : Slot), k < l.length → (((slotRow l).set (k * 3) (.int .i64 x.is)).set (k * 3 + 1) (.int .u32 x.gen)).set (k * 3 + 2) (.int .i64 x.addr) = slotRow (l.set k x)
  | [], k, _, h => by simp at h
  | y :: r, 0, x, _ => rfl
  | y :: r, k + 1, x, h => by
    have ih := slotRow_set r k x (by simpa using h)
    have e : slotRow (y :: r) = (.int .i64 y.is) :: (.int .u32 y.gen) :: (.int .i64 y.addr) :: slotRow r := rfl
    have e2 : slotRow ((y :: r).set (k + 1) x) = (.int .i64 y.is) :: (.int .u32 y.gen) :: (.int .i64 y.addr) :: slotRow (r.set k x) := rfl
    rw [e, e2, ← ih, show (k + 1) * 3 = k * 3 + 1 + 1 + 1 by omega, show k * 3 + 1 + 1 + 1 + 1 = k * 3 + 1 + 1 + 1 + 1 from rfl, show k * 3 + 1 + 1 + 1 + 2 = k * 3 + 2 + 1 + 1 + 1 by omega]
    simp only [List.set_cons_succ]
theorem slotRow_append (l m : List Slot) : slotRow (l ++ m) = slotRow l ++ slotRow m := by unfold slotRow; exact List.flatMap_append
def putSlot (w : World) (g k : Nat) (x : Slot) : World := ((w.setCell ⟨g, k * 3, none⟩ (.int .i64 x.is)).setCell ⟨g, k * 3 + 1, none⟩ (.int .u32 x.gen)).setCell ⟨g, k * 3 + 2, none⟩ (.int .i64 x.addr)
theorem putSlot_other {w : World} {g k b : Nat} {x : Slot} (h : b ≠ g) : (putSlot w g k x).heap[b]? = w.heap[b]? := by
  unfold putSlot
  rw [heap_setCell_ne h, heap_setCell_ne h, heap_setCell_ne h]
theorem putSlot_size (w : World) (g k : Nat) (x : Slot) : (putSlot w g k x).heap.size = w.heap.size := by unfold putSlot; rw [size_setCell, size_setCell, size_setCell]
theorem owns_putSlot {w : World} {g cap k : Nat} {l : List Slot} (h : w.ownsRow 0 250 3 (.slice (some ⟨g, 0, none⟩) l.length cap) l.length (slotRow l)) (x : Slot) (hk : k < l.length) :
    (putSlot w g k x).ownsRow 0 250 3 (.slice (some ⟨g, 0, none⟩) l.length cap) l.length (slotRow (l.set k x)) := by
  rcases h.2 with ⟨h0, _⟩ | ⟨g', cap', cur, hv, hg, hb, h1, h2, h3, h4⟩
  · cases h0
  · injection hv with hv1 hv2 hv3
    injection hv1 with hv1
    injection hv1 with hv1
    subst hv1 hv3
    refine ⟨by rw [slotRow_length, List.length_set], Or.inr ⟨g, cap, ((cur.setIfInBounds (k * 3) (.int .i64 x.is)).setIfInBounds (k * 3 + 1) (.int .u32 x.gen)).setIfInBounds (k * 3 + 2) (.int .i64 x.addr), rfl, hg, ?_, h1, h2, by simpa using h3, ?_⟩⟩
    · unfold putSlot
      exact heap_setCell (heap_setCell (heap_setCell hb))
    · have hsp : cur.toList = slotRow l ++ cur.toList.drop (l.length * 3) := by rw [← h4, List.take_append_drop]
      have hl := slotRow_length l
      simp only [Array.toList_setIfInBounds]
      rw [hsp, List.set_append_left _ _ (by omega), List.set_append_left _ _ (by simp; omega), List.set_append_left _ _ (by simp; omega), List.take_left' (by simp; omega), slotRow_set l k x hk]
theorem slotInfo : (Tryz.prog.info? 250).map (fun i => (i.zero, i.size, i.bytes)) = some (some (.agg #[.int .i64 0, .int .u32 0, .int .i64 0]), 3, 24) := by kernel_rfl
end Go.Proofs.YtepdkbmnkjfcpaaGreatDoor
