/- A region that draws its order, whose operations but the last few are quiet in a class of worlds, and whose last few come in one forced order: one walk. (The library's theorem for the one world, turned to a class of worlds.) The heap in memory; none, get, put, clear: the walks. -/
import Derived.StillTail
import Derived.BigQuiet
import Derived.Test.YtepdkbmnkjfcpaaGreatDoorGag
import Derived.Test.YtepdkbmnkjfcpaaGreatDoorGac
import Derived.Test.YtepdkbmnkjfcpaaGreatDoorGad
namespace Go.Proofs.YtepdkbmnkjfcpaaGreatDoor.Qt
open Go Go.RowKit
section
variable {P : Program} {ops : Array Oper} {md : Region.Mode} {C : World → Prop}

def wpAnyQL (P : Program) (md : Region.Mode) (ops : Array Oper) (C : World → Prop) (n : Nat) (L : Array Bool → Act → Prop) : Nat → Array Bool → Act → Prop
  | 0, listed, a => L listed a
  | f + 1, listed, a =>
    Region.ready md ops listed ≠ [] ∧ ∀ i ∈ Region.ready md ops listed, i < n ∧ qOp P ops C i (wpAnyQL P md ops C n L f (listed.setIfInBounds i true)) a

theorem wpAny_of_head {n g : Nat} {L : Array Bool → Act → Prop} {Q' : Exit → Act → World → Prop} (hL : ∀ listed a w, C w → L listed a → wpAny P md ops Q' g listed a w) :
    ∀ (f : Nat) (listed : Array Bool) (a : Act) (w : World), C w → wpAnyQL P md ops C n L f listed a → wpAny P md ops Q' (f + g) listed a w
  | 0, listed, a, w, hC, h => by rw [Nat.zero_add]; exact hL _ _ _ hC h
  | f + 1, listed, a, w, hC, h => by
    rw [show f + 1 + g = (f + g) + 1 by omega]
    exact ⟨fun h0 => absurd h0 h.1, fun i hi => wpOp_of_qOp hC (fun a' w' hC' h' => wpAny_of_head hL f _ a' w' hC' h') (h.2 i hi).2⟩

theorem wpAnyQL_first {n i : Nat} {oi : Oper} {v : Value} {L : Array Bool → Act → Prop} (hi : ops[i]? = some oi) (hsel : ∀ (j : Nat) (o : Oper) cs b, ops[j]? = some o → o.op ≠ .select cs b)
    (hs : Region.sinkB md ops n = true) (hc : Region.chainB md ops n = true) (hn : n < ops.size) (hin : i < n)
    (hdone : ∀ listed a, L listed a → ∀ j ∈ Region.ready md ops listed, n ≤ j) :
    ∀ (f : Nat) (listed : Array Bool) (a : Act), HeadInv md ops n listed →
      (∀ j oj, ops[j]? = some oj → j ≠ i → listed.getD j true = false → (∀ e ∈ oj.after, Region.binds md e = true → e.on ≠ i) → oi.apart ops oj = true) →
      i ∈ Region.ready md ops listed → YieldsIn P ops C oi v a →
      wpAnyQL P md ops C n L f (listed.setIfInBounds i true) (a.put oi.dst v) → wpAnyQL P md ops C n L (f + 1) listed a := by
  intro f
  induction f with
  | zero =>
    intro listed a inv _ hr hy H
    have hun := (mem_ready.1 hr).1
    refine ⟨fun h => (by rw [h] at hr; cases hr), fun j hj => ?_⟩
    have hjn : j < n := by
      rcases Nat.lt_or_ge j n with h | h
      · exact h
      · exact absurd hj (tail_waits hs hc hn inv _ i rfl hin hun j h)
    refine ⟨hjn, ?_⟩
    by_cases hji : j = i
    · subst hji; exact hy.qOp hi H
    · have := hdone _ _ H j (ready_mono hj hji)
      omega
  | succ f ih =>
    intro listed a inv hfree hr hy H
    have hun := (mem_ready.1 hr).1
    refine ⟨fun h => (by rw [h] at hr; cases hr), fun j hj => ?_⟩
    have hjn : j < n := by
      rcases Nat.lt_or_ge j n with h | h
      · exact h
      · exact absurd hj (tail_waits hs hc hn inv _ i rfl hin hun j h)
    refine ⟨hjn, ?_⟩
    by_cases hji : j = i
    · subst hji; exact hy.qOp hi H
    · have h1 := (H.2 j (ready_mono hj hji)).2
      obtain ⟨hjun, oj, hoj, hall⟩ := mem_ready.1 hj
      have hnot : ∀ e ∈ oj.after, Region.binds md e = true → e.on ≠ i := fun e he hb heq => by
        have h1 := hall e he hb
        rw [heq, getD_both hun] at h1
        cases h1
      have h2 := qOp_put hoj (hfree j oj hoj hji hjun hnot) (fun cs b => hsel i oi cs b hi) (fun cs b => hsel j oj cs b hoj) hy h1
      have hfree' : ∀ k ok, ops[k]? = some ok → k ≠ i → (listed.setIfInBounds j true).getD k true = false →
          (∀ e ∈ ok.after, Region.binds md e = true → e.on ≠ i) → oi.apart ops ok = true := fun k ok hk hki hun hno => by
        refine hfree k ok hk hki ?_ hno
        by_cases hjk : j = k
        · subst hjk; exact hjun
        · rw [getD_set_ne true hjk] at hun; exact hun
      refine qOp_mono (fun a' h3 => ih (listed.setIfInBounds j true) a' (inv.set hj hjn) hfree' (ready_mono hr (Ne.symm hji)) h3.1 ?_) h2
      rw [Array.setIfInBounds_comm _ _ hji]
      exact h3.2

theorem wpAnyQL_lex {n g : Nat} {Lq : Act → Prop} (hsel : Region.noSelect ops = true) (hs : Region.sinkB md ops n = true) (hc : Region.chainB md ops n = true) (hn : n < ops.size) :
    ∀ (l : List Oper) (k : Nat) (listed : Array Bool) (a : Act), (∀ j, j < l.length → l[j]? = ops[k + j]?) → k + l.length = n → HeadInv md ops n listed →
    Region.lexHead md ops g l.length k listed = true → wpQuiet P ops C Lq l a →
    wpAnyQL P md ops C n (fun listed' a' => Region.seqB md ops g n listed' = true ∧ Lq a') l.length listed a
  | [], k, listed, a, _, hk, _, hB, h => by
    have : k = n := by simpa using hk
    subst this
    exact ⟨by simpa [Region.lexHead] using hB, h⟩
  | o :: l, k, listed, a, hl, hk, inv, hB, h => by
    have h0 : ops[k]? = some o := by simpa using (hl 0 (by simp)).symm
    simp only [List.length_cons, Region.lexHead, Bool.and_eq_true] at hB
    obtain ⟨⟨hr, hf⟩, hB'⟩ := hB
    have hkn : k < n := by simp only [List.length_cons] at hk; omega
    have hr' : k ∈ Region.ready md ops listed := by simpa using hr
    have hst : qOp P ops C k (wpQuiet P ops C Lq l) a := by unfold qOp; simp only [h0]; exact h
    obtain ⟨v, hy, hK⟩ := yieldsIn_of_qOp h0 hst
    exact wpAnyQL_first h0 (Region.noSelect_spec hsel) hs hc hn hkn (fun listed' a' hL => seqB_ready hL.1) l.length listed a inv (Region.free_spec h0 hf) hr' hy
      (wpAnyQL_lex hsel hs hc hn l (k + 1) _ _ (fun j hj => by have := hl (j + 1) (by simp; omega); simpa [Nat.add_assoc, Nat.add_comm 1 j] using this) (by simp only [List.length_cons] at hk; omega) (inv.set hr' hkn) hB' hK)

end
end Qt

theorem wp_region_quiet_tail {P : Program} {C : World → Prop} {id : Nat} {Q : Exit → Act → World → Prop} {a : Act} {w : World} {l : List Oper} (n : Nat) (hm : P.follows .mixedOrders = true) (hB : Region.lexTailB .any l.toArray n = true) (hC : C w.drew)
    (h : wpQuiet P l.toArray C (fun a' => ∀ w', C w' → wpList P l.toArray Q (l.drop n) a' w') (l.take n) a) : (Code.region id l.toArray true).wp P Q a w := by
  simp only [Region.lexTailB, Bool.and_eq_true, decide_eq_true_eq] at hB
  obtain ⟨⟨⟨⟨hsel, hn⟩, hs⟩, hc⟩, hlex⟩ := hB
  have hn' : n < l.length := by simpa using hn
  have htl : (l.take n).length = n := by simp; omega
  have hdl : (l.drop n).length = l.toArray.size - n := by simp
  have inv0 : HeadInv .any l.toArray n (Array.replicate l.toArray.size false) :=
    ⟨by simp, fun j oj _ hl => (by rw [getD_replicate_false] at hl; cases hl), fun t _ ht => getD_in (by simpa using ht) (getD_replicate_false _ _)⟩
  have H := Qt.wpAnyQL_lex (md := .any) (g := l.toArray.size - n) hsel hs hc hn (l.take n) 0 _ a (fun j hj => by
    have hj' : j < n := by rw [htl] at hj; exact hj
    simp [hj']) (by simpa using htl) inv0 (by rw [htl]; exact hlex) h
  refine wp_region_any hm ?_
  have := Qt.wpAny_of_head (Q' := Q) (g := l.toArray.size - n) (fun listed a' w' hC' hL => by
    have := wpAny_of_seq (md := .any) (Q' := Q) (l.drop n) n listed a' w' (fun j => by simp [List.getElem?_drop]) (by rw [hdl]; exact hL.1) (hL.2 w' hC')
    rwa [hdl] at this) _ _ _ _ (show C { w with drawn := w.drawn + 1 } from hC) H
  rw [htl, show n + (l.toArray.size - n) = l.toArray.size by omega] at this
  exact this
end Go.Proofs.YtepdkbmnkjfcpaaGreatDoor

namespace Go.Proofs.YtepdkbmnkjfcpaaGreatDoor
open Go.RowKit Go.BigFrame Go.Maps Go.WideMaps Lf

abbrev tabB : Nat := 1
theorem SlabOn.of_keep {w w' : World} {pa pm : Nat} {s : Slab} {Y : Nat → Prop} {blk : Nat → Nat} (h : SlabOn w pa pm s Y blk) (hs : w.heap.size ≤ w'.heap.size) (hb : ∀ k, k < w.heap.size → (k = pa ∨ k = pm ∨ ∃ p ∈ s.keys, k = blk p) → w'.heap[k]? = w.heap[k]?) : SlabOn w' pa pm s Y blk where
  wf := h.wf
  hd := by rw [hb pa (Array.getElem?_eq_some_iff.1 h.hd).1 (Or.inl rfl)]; exact h.hd
  map := ownsMap_of_block h.map (hb pm h.map.lt (Or.inr (Or.inl rfl)))
  pg := fun x hx => by
    have h1 := h.pg x hx
    rw [hb _ (Array.getElem?_eq_some_iff.1 h1).1 (Or.inr (Or.inr ⟨x.1, keys_mem.2 ⟨_, hx⟩, rfl⟩))]
    exact h1
  inj := h.inj
  ya := h.ya
  ym := h.ym
  yp := h.yp
  yl := fun k hk => Nat.lt_of_lt_of_le (h.yl k hk) hs
theorem SlabOn.below {w w' : World} {pa pm : Nat} {s : Slab} {Y : Nat → Prop} {blk : Nat → Nat} (h : SlabOn w pa pm s Y blk) (hb : Below w.heap.size w w') : SlabOn w' pa pm s Y blk :=
  h.of_keep hb.size fun k hk _ => hb.block k hk

/-- a heap in memory: its struct is block ph, which is of Y, as is the library's table -/
structure HeapOn (w : World) (ph pa pm : Nat) (s : Slab) (Y : Nat → Prop) : Prop where
  slab : ∃ blk, SlabOn w pa pm s Y blk
  hp : w.heap[ph]? = some (.cells #[PV pa] 160 (0, 0))
  yh : Y ph
  tab : Tab64 w
  yt : Y tabB
theorem HeapOn.yl {w : World} {ph pa pm : Nat} {s : Slab} {Y : Nat → Prop} (h : HeapOn w ph pa pm s Y) : ∀ k, Y k → k < w.heap.size := by
  obtain ⟨blk, hs⟩ := h.slab
  exact hs.yl
theorem HeapOn.wf {w : World} {ph pa pm : Nat} {s : Slab} {Y : Nat → Prop} (h : HeapOn w ph pa pm s Y) : SlabWF s := by
  obtain ⟨blk, hs⟩ := h.slab
  exact hs.wf
theorem HeapOn.step {w w' : World} {ph pa pm : Nat} {s s' : Slab} {Y : Nat → Prop} (h : HeapOn w ph pa pm s Y) (hs : ∃ blk, SlabOn w' pa pm s' Y blk) (hk : Keep Y w w') : HeapOn w' ph pa pm s' Y where
  slab := hs
  hp := by rw [hk.block ph h.yh]; exact h.hp
  yh := h.yh
  tab := h.tab.of_block (hk.block _ h.yt)
  yt := h.yt
theorem HeapOn.below {w w' : World} {ph pa pm : Nat} {s : Slab} {Y : Nat → Prop} (h : HeapOn w ph pa pm s Y) (hb : Below w.heap.size w w') : HeapOn w' ph pa pm s Y := by
  obtain ⟨blk, hs⟩ := h.slab
  exact h.step ⟨blk, hs.below hb⟩ (Keep.of_below hb hs.yl)
theorem HeapOn.keep {w w' : World} {ph pa pm : Nat} {s : Slab} {Y : Nat → Prop} (h : HeapOn w ph pa pm s Y) (hb : Below w.heap.size w w') : Keep Y w w' := Keep.of_below hb h.yl
theorem HeapOn.cell {w : World} {ph pa pm : Nat} {s : Slab} {Y : Nat → Prop} (h : HeapOn w ph pa pm s Y) : w.cell? ⟨ph, 0, none⟩ = some (PV pa) := by rw [cell_of_block h.hp]; rfl
theorem HeapOn.lt {w : World} {ph pa pm : Nat} {s : Slab} {Y : Nat → Prop} (h : HeapOn w ph pa pm s Y) : ph < w.heap.size := h.yl _ h.yh
theorem SlabOn.mono {w : World} {pa pm : Nat} {s : Slab} {Y Z : Nat → Prop} {blk : Nat → Nat} (h : SlabOn w pa pm s Y blk) (hz : ∀ k, Z k → Y k) : SlabOn w pa pm s Z blk :=
  ⟨h.wf, h.hd, h.map, h.pg, h.inj, fun k => h.ya (hz _ k), fun k => h.ym (hz _ k), fun p hp k => h.yp p hp (hz _ k), fun k hk => h.yl k (hz k hk)⟩
/-- one block more that is kept: a new one -/
abbrev And1 (Y : Nat → Prop) (b : Nat) : Nat → Prop := fun k => Y k ∨ k = b
theorem SlabOn.own {w : World} {pa pm : Nat} {s : Slab} {Y : Nat → Prop} {blk : Nat → Nat} (h : SlabOn w pa pm s Y blk) (o : Obj) : SlabOn (w.alloc o) pa pm s (And1 Y w.heap.size) blk := by
  have h' := h.below ((Below.refl _ w).alloc (Nat.le_refl _) o)
  have hpa := (Array.getElem?_eq_some_iff.1 h.hd).1
  refine ⟨h'.wf, h'.hd, h'.map, h'.pg, h'.inj, ?_, ?_, ?_, ?_⟩
  · rintro (k | k)
    · exact h.ya k
    · omega
  · rintro (k | k)
    · exact h.ym k
    · have := h.map.lt; omega
  · rintro p hp (k | k)
    · exact h.yp p hp k
    · obtain ⟨l, hl⟩ := keys_mem.1 hp
      have := (Array.getElem?_eq_some_iff.1 (h.pg _ hl)).1
      simp only at this
      omega
  · rintro k (hk | hk)
    · have := h.yl k hk; simp; omega
    · simp; omega
theorem HeapOn.own {w : World} {ph pa pm : Nat} {s : Slab} {Y : Nat → Prop} (h : HeapOn w ph pa pm s Y) (o : Obj) : HeapOn (w.alloc o) ph pa pm s (And1 Y w.heap.size) := by
  have h' := h.below ((Below.refl _ w).alloc (Nat.le_refl _) o)
  obtain ⟨blk, hs⟩ := h.slab
  exact ⟨⟨blk, hs.own o⟩, h'.hp, Or.inl h.yh, h'.tab, Or.inl h.yt⟩
theorem HeapOn.mono {w : World} {ph pa pm : Nat} {s : Slab} {Y Z : Nat → Prop} (h : HeapOn w ph pa pm s Y) (hz : ∀ k, Z k → Y k) (h1 : Z ph) (h2 : Z tabB) : HeapOn w ph pa pm s Z := by
  obtain ⟨blk, hs⟩ := h.slab
  exact ⟨⟨blk, hs.mono hz⟩, h.hp, h1, h.tab, h2⟩
theorem HeapOn.drewN {w : World} {ph pa pm : Nat} {s : Slab} {Y : Nat → Prop} (h : HeapOn w ph pa pm s Y) (n : Nat) : HeapOn (w.drewN n) ph pa pm s Y := h.below ⟨rfl, rfl, rfl, Nat.le_refl _, fun _ _ => rfl⟩
theorem HeapOn.read {w : World} {ph pa pm : Nat} {s : Slab} {Y : Nat → Prop} (h : HeapOn w ph pa pm s Y) (a : Nat) (ha : a ≤ 4611686018427387904) :
    Calls Tryz.prog 98 #[PV pa, .int .i64 a] w fun e w' => e = .returned (.tuple #[.int .u64 (s.rd a : Nat), .int .i64 (s.err a : Nat)]) ∧ w = w' := by
  obtain ⟨blk, hs⟩ := h.slab
  exact slab_read hs a ha
theorem HeapOn.write {w : World} {ph pa pm : Nat} {s : Slab} {Y : Nat → Prop} (h : HeapOn w ph pa pm s Y) (a x : Nat) (ha : a ≤ 4611686018427387904) (hx : x < 18446744073709551616) :
    Calls Tryz.prog 128 #[PV pa, .int .i64 a, .int .u64 x] w fun e w' => e = .returned (.int .i64 (s.err a : Nat)) ∧ HeapOn w' ph pa pm (s.wr a x) Y ∧ Keep Y w w' := by
  obtain ⟨blk, hs⟩ := h.slab
  refine (slab_write hs a x ha hx).mono ?_
  rintro e w' ⟨h1, h2, h3⟩
  exact ⟨h1, h.step ⟨_, h2⟩ h3, h3⟩
/-- .. the address and the word as the walk spells them -/
theorem HeapOn.write' {w : World} {ph pa pm : Nat} {s : Slab} {Y : Nat → Prop} (h : HeapOn w ph pa pm s Y) (a x : Nat) {ai xi : Int} (ha : a ≤ 4611686018427387904) (hx : x < 18446744073709551616) (hai : ai = (a : Int)) (hxi : xi = (x : Int)) :
    Calls Tryz.prog 128 #[PV pa, .int .i64 ai, .int .u64 xi] w fun e w' => e = .returned (.int .i64 (s.err a : Nat)) ∧ HeapOn w' ph pa pm (s.wr a x) Y ∧ Keep Y w w' := by
  subst hai hxi
  exact h.write a x ha hx
theorem HeapOn.rd_lt {w : World} {ph pa pm : Nat} {s : Slab} {Y : Nat → Prop} (h : HeapOn w ph pa pm s Y) (a : Nat) : s.rd a < 18446744073709551616 := by
  obtain ⟨blk, hs⟩ := h.slab
  exact hs.rd_lt a

set_option maxRecDepth 100000 in
set_option maxHeartbeats 400000 in
theorem heap_none {w : World} {ph pa pm : Nat} {s : Slab} {Y : Nat → Prop} (h : HeapOn w ph pa pm s Y) :
    Calls Tryz.prog 131 #[PV ph] w fun e w' => e = .returned (.bool false) ∧ w = w' := by
  have c1 := h.cell
  clear h
  go_enter Tryz.func131, Tryz.ntmps131
  go_wp2
  go_ret
  exact ⟨rfl, rfl⟩

/-- a head as a value -/
def headV (x : Head) : Value := .agg #[.int .i64 x.kind, .int .i64 x.n, .int .u64 x.w]

set_option maxRecDepth 100000 in
set_option maxHeartbeats 800000 in
theorem heap_get {w : World} {ph pa pm : Nat} {s : Slab} {Y : Nat → Prop} (h : HeapOn w ph pa pm s Y) (p : Nat) (hp : p ≤ 1048576) :
    Calls Tryz.prog 181 #[PV ph, .int .i64 p] w fun e w' => e = .returned (headV (getH s p)) ∧ Below w.heap.size w w' := by
  have c1 := h.cell
  have hlt := h.lt
  have r1 := fun W (hb : Below w.heap.size w W) => (h.below hb).read (p * 64) (by omega)
  have r2 := fun W (hb : Below w.heap.size w W) => (h.below hb).read (p * 64 + 1) (by omega)
  have l1 := h.rd_lt (p * 64)
  have he : getH s p = ⟨s.rd (p * 64) % 256, s.rd (p * 64) / 256, s.rd (p * 64 + 1)⟩ := rfl
  rw [he]
  clear he h
  generalize s.rd (p * 64) = a at *
  generalize s.rd (p * 64 + 1) = b at *
  generalize s.err (p * 64) = e1 at *
  generalize s.err (p * 64 + 1) = e2 at *
  rw [show ((p * 64 : Nat) : Int) = (p : Int) * 64 from by simp] at r1
  rw [show ((p * 64 + 1 : Nat) : Int) = (p : Int) * 64 + 1 from by simp] at r2
  have HR := Lib.hid (And.intro r1 r2)
  clear r1 r2
  have hand := bits_and_u64_nat a 255 l1 (by decide)
  rw [show a &&& 255 = a % 256 from Nat.and_two_pow_sub_one_eq_mod a 8] at hand
  have hb0 : Below w.heap.size w (w.alloc (.cells #[.int .i64 0, .int .i64 0, .int .u64 0] 204)) := (Below.refl _ w).alloc (Nat.le_refl _) _
  go_enter Tryz.func181, Tryz.ntmps181
  go_wp2_with fail
  refine (HR.out.1 _ hb0).mono ?_
  rintro e w1 ⟨rfl, rfl⟩
  go_wp2_with fail
  refine (HR.out.2 _ hb0).mono ?_
  rintro e w1 ⟨rfl, rfl⟩
  go_wp2_with fail
  have hw : wrap64 (bits BinOp.and IntKind.u64 (a : Int) 255) = ((a % 256 : Nat) : Int) := by
    rw [show (255 : Int) = ((255 : Nat) : Int) from rfl, hand]
    unfold wrap64
    omega
  simp only [hw]
  exact bodyPost_ret (v := headV ⟨a % 256, a / 256, b⟩) (by simp [results, Tryz.f181, go_sem, headV]) rfl ⟨rfl, (Below.refl _ w).alloc (Nat.le_refl _) _⟩

set_option maxRecDepth 100000 in
set_option maxHeartbeats 800000 in
theorem heap_put {w : World} {ph pa pm : Nat} {s : Slab} {Y : Nat → Prop} (h : HeapOn w ph pa pm s Y) (p : Nat) (x : Head) (hp : p ≤ 1048576) (hk : x.kind < 256) (hn : x.n < 72057594037927936) (hxw : x.w < 18446744073709551616) :
    Calls Tryz.prog 174 #[PV ph, .int .i64 p, headV x] w fun e w' => e = .returned (.tuple #[]) ∧ HeapOn w' ph pa pm (putH s p x) Y ∧ Keep Y w w' := by
  obtain ⟨kd, xn, xw⟩ := x
  simp only at hk hn hxw
  simp only [headV]
  have ho := h.own (.cells #[.int .i64 kd, .int .i64 xn, .int .u64 xw] 204)
  have hwd : kd + xn * 256 < 18446744073709551616 := by omega
  have hor : bits BinOp.or IntKind.u64 (kd : Int) ((xn : Int) * 256) = ((kd + xn * 256 : Nat) : Int) := by
    rw [show ((xn : Int) * 256) = ((xn * 256 : Nat) : Int) by simp, bits_or_u64_nat _ _ (by omega) (by omega)]
    congr 1
    have h8 := Nat.shiftLeft_add_eq_or_of_lt (i := 8) (b := kd) (by omega) xn
    rw [Nat.shiftLeft_eq] at h8
    rw [Nat.or_comm, Nat.add_comm]
    exact h8.symm
  have HOR := Lib.hid hor
  clear hor
  have hmu : IntKind.u64.wrap ((xn : Int) * 256) = ((xn * 256 : Nat) : Int) := by rw [IntKind.wrap_u64]; omega
  have hput : putH s p ⟨kd, xn, xw⟩ = (s.wr (p * 64) (kd + xn * 256)).wr (p * 64 + 1) xw := rfl
  rw [hput]
  obtain ⟨W0, hW0⟩ : ∃ W0, w.alloc (.cells #[.int .i64 kd, .int .i64 xn, .int .u64 xw] 204) = W0 := ⟨_, rfl⟩
  have hnew : W0.heap[w.heap.size]? = some (.cells #[.int .i64 kd, .int .i64 xn, .int .u64 xw] 204 (0, 0)) := by
    rw [← hW0]; show (w.heap.push _)[w.heap.size]? = _; simp
  have hbel : Below w.heap.size w W0 := by rw [← hW0]; exact (Below.refl _ w).alloc (Nat.le_refl _) _
  have b0 : W0.cell? ⟨w.heap.size, 0, none⟩ = some (.int .i64 kd) := by rw [cell_of_block hnew]; rfl
  have b1 : W0.cell? ⟨w.heap.size, 1, none⟩ = some (.int .i64 xn) := by rw [cell_of_block hnew]; rfl
  have b2 : W0.cell? ⟨w.heap.size, 2, none⟩ = some (.int .u64 xw) := by rw [cell_of_block hnew]; rfl
  rw [hW0] at ho
  have c1 := ho.cell
  have hkeep := h.keep hbel
  have hyz := And.intro h.yh h.yt
  have HO := Lib.hid (And.intro ho (And.intro hkeep (And.intro hyz (And.intro hW0 hnew))))
  clear ho h hW0 hnew hbel hput hkeep hyz
  go_enter Tryz.func174, Tryz.ntmps174
  go_wp2_with fail
  rw [HO.out.2.2.2.1]
  refine wp_region_quiet_tail (C := fun w' => ∃ q : Nat, w' = (W0).drewN q) 14 (by kernel_rfl) (by kernel_rfl) ⟨1, rfl⟩ ?_
  simp only [List.take_succ_cons, List.take_zero, List.drop_succ_cons, List.drop_zero]
  repeat (first | go_big_quiet_skip | (go_big_quiet_want; go_big_quiet_op; first | go_big_quiet_on))
  refine wpQuiet_nil ?_
  rintro _ ⟨q, rfl⟩
  go_wp2_with fail
  refine ((HO.out.1.drewN q).write' (p * 64) (kd + xn * 256) (by omega) hwd (by simp) HOR.out).mono ?_
  rintro e w1 ⟨rfl, ho1, hk1⟩
  have c1 := ho1.cell
  have b2 : w1.cell? ⟨w.heap.size, 2, none⟩ = some (.int .u64 xw) := by rw [hk1.cell (p := ⟨w.heap.size, 2, none⟩) (Or.inr rfl)]; exact b2
  have H1 := Lib.hid (And.intro ho1 (hk1.mono (Z := Y) fun k hk => Or.inl hk))
  clear ho1 hk1 b0 b1
  go_wp2_with fail
  refine wp_region_quiet_tail (C := fun w' => ∃ q : Nat, w' = (w1).drewN q) 9 (by kernel_rfl) (by kernel_rfl) ⟨1, rfl⟩ ?_
  simp only [List.take_succ_cons, List.take_zero, List.drop_succ_cons, List.drop_zero]
  repeat (first | go_big_quiet_skip | (go_big_quiet_want; go_big_quiet_op; first | go_big_quiet_on))
  refine wpQuiet_nil ?_
  rintro _ ⟨q, rfl⟩
  go_wp2_with fail
  refine ((H1.out.1.drewN q).write' (p * 64 + 1) xw (by omega) hxw (by simp) rfl).mono ?_
  rintro e w2 ⟨rfl, ho2, hk2⟩
  have H2 := Lib.hid (And.intro (ho2.mono (fun k hk => Or.inl hk) HO.out.2.2.1.1 HO.out.2.2.1.2) (hk2.mono (Z := Y) fun k hk => Or.inl hk))
  clear ho2 hk2
  go_wp2_with fail
  go_end0
  exact ⟨rfl, H2.out.1, HO.out.2.1.trans ((Keep.drewN _ _ _).trans (H1.out.2.trans ((Keep.drewN _ _ _).trans H2.out.2)))⟩

set_option maxRecDepth 100000 in
set_option maxHeartbeats 800000 in
theorem heap_clear {w : World} {ph pa pm : Nat} {s : Slab} {Y : Nat → Prop} (h : HeapOn w ph pa pm s Y) (a n : Nat) (ha : a ≤ 2305843009213693952) (hn : n ≤ 100000) :
    Calls Tryz.prog 220 #[PV ph, .int .i64 a, .int .i64 n] w fun e w' => e = .returned (.tuple #[]) ∧ HeapOn w' ph pa pm (clearH s a n) Y ∧ Keep Y w w' := by
  have H := Lib.hid h
  clear h
  go_enter Tryz.func220, Tryz.ntmps220
  go_wp2_with fail
  go_loopw [6, 8] (fun _ i wr => ∃ k : Nat, k ≤ n ∧ i = .int .i64 k ∧ Hid (HeapOn wr ph pa pm (s.zero a k) Y ∧ Keep Y w wr)) (fun _ i _ => n - (intOf i).toNat)
  case atStart => exact ⟨0, by omega, rfl, H.out, Keep.refl _ _⟩
  case round =>
    obtain ⟨k, hk, rfl, hin⟩ := hrel
    have c1 := hin.out.1.cell
    by_cases hlt : k < n
    · go_wp2_with fail
      refine (hin.out.1.write' (a + k) 0 (by omega) (by decide) (by simp) rfl).mono ?_
      rintro e w1 ⟨rfl, h1, k1⟩
      have H1 := Lib.hid (And.intro h1 (hin.out.2.trans k1))
      clear h1 k1 c1
      go_wp2_with fail
      go_roundw
      case rel => exact ⟨k + 1, by omega, by go_num, H1.out⟩
      case measure => simp [intOf]; omega
    · obtain rfl : k = n := by omega
      go_wp2_with fail
      go_end0
      exact ⟨rfl, hin.out⟩
end Go.Proofs.YtepdkbmnkjfcpaaGreatDoor
