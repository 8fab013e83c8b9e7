/- Sets of bits: the walks. The arena: where a word is, Read and Write: the walks. The arena: Read and Write: the walks. -/
import Derived.Test.YtoaabbnieakidaaGreatDoorRGaa
import Derived.Test.YtoaabbnieakidaaGreatDoorRGab
import Derived.Laws.Bits64
import Derived.Laws.Bits64b
import Derived.Laws.BitsAllLaws
namespace Go.Proofs.YtoaabbnieakidaaGreatDoorR
open Go.RowKit Go.BigFrame Lf

theorem pow_lt64 {k : Nat} (h : k < 64) : 2 ^ k < 18446744073709551616 := Nat.pow_lt_pow_right (n := 64) (by decide) h
theorem wrapu_pow {k : Nat} (h : k < 64) : IntKind.u64.wrap ((2 : Int) ^ k) = ((2 ^ k : Nat) : Int) := by
  have h1 := pow_lt64 h
  rw [show ((2 : Int) ^ k) = ((2 ^ k : Nat) : Int) by simp, IntKind.wrap_u64]
  generalize 2 ^ k = m at *
  omega
theorem has_bit (w k : Nat) (hw : w < 18446744073709551616) (hk : k < 64) : (bits BinOp.and IntKind.u64 ((w : Int) / 2 ^ k) 1 == 1) = bitOf w k := by
  have h1 : (w : Int) / 2 ^ k = ((w / 2 ^ k : Nat) : Int) := by simp
  have h2 : w / 2 ^ k < 18446744073709551616 := Nat.lt_of_le_of_lt (Nat.div_le_self _ _) hw
  rw [h1, show (1 : Int) = ((1 : Nat) : Int) from rfl, bits_and_u64_nat _ _ h2 (by decide)]
  unfold bitOf
  rw [decide_eq_true hk, Bool.true_and, Nat.testBit, Nat.shiftRight_eq_div_pow, Nat.and_one_is_mod, Nat.one_and_eq_mod_two]
  have := Nat.mod_two_eq_zero_or_one (w / 2 ^ k)
  generalize w / 2 ^ k % 2 = q at *
  rcases this with rfl | rfl <;> rfl

set_option maxRecDepth 100000 in
set_option maxHeartbeats 400000 in
theorem bits_has (w k : Nat) (W : World) (hw : w < 18446744073709551616) (hk : k ≤ 1000) :
    Calls Tryz.prog 232 #[.int .u64 w, .int .i64 k] W fun e w' => e = .returned (.bool (bitOf w k)) ∧ W = w' := by
  by_cases h : k < 64
  · have hb := Lib.hid (has_bit w k hw h)
    go_enter Tryz.func232, Tryz.ntmps232
    go_wp2
    go_ret
    rw [← hb.out]
    exact ⟨rfl, rfl⟩
  · have hb : bitOf w k = false := by unfold bitOf; rw [decide_eq_false h]; rfl
    have hd : ¬ (k : Int) < 64 := by omega
    rw [hb]
    go_enter Tryz.func232, Tryz.ntmps232
    go_wp2
    go_ret
    exact ⟨rfl, rfl⟩

set_option maxRecDepth 100000 in
set_option maxHeartbeats 400000 in
theorem bits_set (w k : Nat) (W : World) (hw : w < 18446744073709551616) (hk : k < 64) :
    Calls Tryz.prog 236 #[.int .u64 w, .int .i64 k] W fun e w' => e = .returned (.tuple #[.int .u64 (bitSet w k : Nat), .int .i64 0]) ∧ W = w' := by
  have hb : bits BinOp.or IntKind.u64 (w : Int) (IntKind.u64.wrap (2 ^ k)) = ((bitSet w k : Nat) : Int) := by
    rw [wrapu_pow hk, bits_or_u64_nat _ _ hw (pow_lt64 hk)]
    rfl
  have HB := Lib.hid hb
  clear hb
  go_enter Tryz.func236, Tryz.ntmps236
  go_wp2
  go_ret2
  rw [← HB.out]
  exact ⟨rfl, rfl⟩
set_option maxRecDepth 100000 in
set_option maxHeartbeats 400000 in
theorem bits_clear (w k : Nat) (W : World) (hw : w < 18446744073709551616) (hk : k < 64) :
    Calls Tryz.prog 233 #[.int .u64 w, .int .i64 k] W fun e w' => e = .returned (.tuple #[.int .u64 (bitClear w k : Nat), .int .i64 0]) ∧ W = w' := by
  have hb : bits BinOp.andNot IntKind.u64 (w : Int) (IntKind.u64.wrap (2 ^ k)) = ((bitClear w k : Nat) : Int) := by
    rw [wrapu_pow hk, u64_andNot_nat _ _ hw (pow_lt64 hk)]
    rfl
  have HB := Lib.hid hb
  clear hb
  go_enter Tryz.func233, Tryz.ntmps233
  go_wp2
  go_ret2
  rw [← HB.out]
  exact ⟨rfl, rfl⟩
set_option maxRecDepth 100000 in
set_option maxHeartbeats 400000 in
theorem bits_full (n : Nat) (W : World) (hk : n < 64) :
    Calls Tryz.prog 165 #[.int .i64 n] W fun e w' => e = .returned (.int .u64 (2 ^ n - 1 : Nat)) ∧ W = w' := by
  have hb : IntKind.u64.wrap (IntKind.u64.wrap (2 ^ n) - 1) = ((2 ^ n - 1 : Nat) : Int) := by
    have h1 := pow_lt64 hk
    have h2 : 0 < 2 ^ n := Nat.two_pow_pos n
    rw [wrapu_pow hk, IntKind.wrap_u64]
    generalize 2 ^ n = m at *
    omega
  have HB := Lib.hid hb
  clear hb
  go_enter Tryz.func165, Tryz.ntmps165
  go_wp2
  go_ret
  rw [← HB.out]
  exact ⟨rfl, rfl⟩

set_option maxRecDepth 100000 in
set_option maxHeartbeats 400000 in
theorem bits_cut (n : Nat) (W : World) (hk : n < 64) :
    Calls Tryz.prog 257 #[.int .i64 n] W fun e w' => e = .returned (.func (.func 270) #[] #[PV W.heap.size]) ∧ w' = W.alloc (.cells #[.int .u64 (2 ^ n - 1 : Nat)] 60) := by
  have hf := bits_full n W hk
  generalize 2 ^ n - 1 = m at *
  have HF := Lib.hid hf
  clear hf
  go_enter Tryz.func257, Tryz.ntmps257
  go_wp2_with fail
  refine HF.out.mono ?_
  rintro e w1 ⟨rfl, rfl⟩
  go_wp2_with fail
  go_ret
  exact ⟨rfl, rfl⟩
set_option maxRecDepth 100000 in
set_option maxHeartbeats 400000 in
theorem bits_cut1 (w m B : Nat) (W : World) (hw : w < 18446744073709551616) (hm : m < 18446744073709551616) (hB : W.cell? ⟨B, 0, none⟩ = some (.int .u64 m)) :
    Calls Tryz.prog 270 #[.int .u64 w, PV B] W fun e w' => e = .returned (.int .u64 (w &&& m : Nat)) ∧ W = w' := by
  have hb := bits_and_u64_nat w m hw hm
  have HB := Lib.hid hb
  clear hb
  go_enter Tryz.func270, Tryz.ntmps270
  go_wp2_with fail
  go_ret
  rw [← HB.out]
  exact ⟨rfl, rfl⟩

def Tab64 (w : World) : Prop := TabAt 0 Go.Lib.deBruijn64tab w
theorem Tab64.lt {w : World} (h : Tab64 w) : 0 < w.heap.size := by
  have := h 0 (by decide)
  unfold World.cell? at this
  simp only at this
  by_cases hl : 0 < w.heap.size
  · exact hl
  · rw [Array.getElem?_eq_none (by omega)] at this
    cases this
theorem Tab64.of_block {w w' : World} (h : Tab64 w) (hb : w'.heap[(0 : Nat)]? = w.heap[(0 : Nat)]?) : Tab64 w' := fun j hj => by
  rw [← h j hj]
  exact World.cell?_of_block hb
theorem Tab64.below {w w' : World} (h : Tab64 w) {n : Nat} (hb : Below n w w') (hn : w.heap.size ≤ n) : Tab64 w' := h.of_block (hb.block _ (Nat.lt_of_lt_of_le h.lt hn))

/-- the least number that is not there, or -1 -/
def freeI (w n : Nat) : Int := match bitFree w n with | some k => k | none => -1
theorem left_bit {w n j : Nat} (hw : w < 18446744073709551616) (hn : n < 64) : ((18446744073709551615 - w) &&& (2 ^ n - 1)).testBit j = (decide (j < n) && !w.testBit j) := by
  rw [Nat.testBit_and, Nat.testBit_two_pow_sub_one, show 18446744073709551615 - w = 2 ^ 64 - (w + 1) by omega, Nat.testBit_two_pow_sub_succ (by omega)]
  by_cases h : j < n
  · simp [h, show j < 64 by omega]
  · simp [h]
theorem free_none {w n : Nat} (hw : w < 18446744073709551616) (hn : n < 64) (h : (18446744073709551615 - w) &&& (2 ^ n - 1) = 0) : freeI w n = -1 := by
  have : bitFree w n = none := by
    unfold bitFree
    rw [List.find?_eq_none]
    intro j hj
    have hb := left_bit (w := w) (n := n) (j := j) hw hn
    rw [h, Nat.zero_testBit] at hb
    have hj' : j < n := by simpa using hj
    simpa [hj'] using hb
  unfold freeI
  rw [this]
theorem free_some {w n : Nat} (hw : w < 18446744073709551616) (hn : n < 64) (h : (18446744073709551615 - w) &&& (2 ^ n - 1) ≠ 0) : freeI w n = (Go.Lib.ctz 64 ((18446744073709551615 - w) &&& (2 ^ n - 1)) : Nat) := by
  obtain ⟨x, hx⟩ : ∃ x, (18446744073709551615 - w) &&& (2 ^ n - 1) = x := ⟨_, rfl⟩
  have hb := fun j => left_bit (w := w) (n := n) (j := j) hw hn
  rw [hx] at h hb ⊢
  have hlt : x < 2 ^ 64 := by rw [← hx]; exact Nat.and_lt_two_pow _ (Nat.lt_of_le_of_lt (Nat.sub_le _ _) (Nat.pow_lt_pow_right (by decide) hn))
  obtain ⟨m, hm, hc⟩ := Go.Lib.ctzFrom_spec 64 x (Nat.pos_of_ne_zero h) hlt
  have hcz : Go.Lib.ctz 64 x = Go.Lib.ctzFrom 64 x := by unfold Go.Lib.ctz; rw [if_neg h]
  rw [hcz]
  generalize Go.Lib.ctzFrom 64 x = c at *
  have b1 : x.testBit c = true := by
    rw [hm, Nat.testBit_two_pow_mul]
    simp
  have b2 : ∀ j, j < c → x.testBit j = false := fun j hj => by
    rw [hm, Nat.testBit_two_pow_mul]
    have : ¬ c ≤ j := by omega
    simp [this]
  rw [hb c] at b1
  simp at b1
  have : bitFree w n = some c := by
    unfold bitFree
    rw [List.find?_range_eq_some]
    refine ⟨by simp [b1.2], by simpa using b1.1, fun j hj => ?_⟩
    have := b2 j hj
    rw [hb j] at this
    have hjn : j < n := by omega
    simpa [hjn] using this
  unfold freeI
  rw [this]

set_option maxRecDepth 100000 in
set_option maxHeartbeats 800000 in
theorem bits_free (w n : Nat) (W : World) (hw : w < 18446744073709551616) (hk : n < 64) (hT : Tab64 W) :
    Calls Tryz.prog 235 #[.int .u64 w, .int .i64 n] W fun e w' => e = .returned (.int .i64 (freeI w n)) ∧ Below W.heap.size W w' := by
  have hf := bits_cut n W hk
  have hm : 2 ^ n - 1 < 18446744073709551616 := by have := pow_lt64 hk; omega
  have h0 := fun h => free_none (w := w) (n := n) hw hk h
  have h1 := fun h => free_some (w := w) (n := n) hw hk h
  have hbw : Below W.heap.size W (W.alloc (.cells #[.int .u64 (2 ^ n - 1 : Nat)] 60)) := (Below.refl _ W).alloc (Nat.le_refl _) _
  have hc := bits_cut1 (18446744073709551615 - w) (2 ^ n - 1) W.heap.size (W.alloc (.cells #[.int .u64 (2 ^ n - 1 : Nat)] 60)) (by omega) hm (by simp)
  have hlt : (18446744073709551615 - w) &&& (2 ^ n - 1) < 18446744073709551616 := Nat.lt_of_le_of_lt Nat.and_le_left (by omega)
  have hz := Any7.bits_TrailingZeros64 Tryz.laysNm729 ((18446744073709551615 - w) &&& (2 ^ n - 1)) hlt (W.alloc (.cells #[.int .u64 (2 ^ n - 1 : Nat)] 60)) (fun _ => hT.below hbw (Nat.le_refl _))
  change Calls _ 258 _ _ _ at hz
  have hx : bits BinOp.xor IntKind.u64 IntKind.u64.max (w : Int) = ((18446744073709551615 - w : Nat) : Int) := by
    rw [show IntKind.u64.max = ((18446744073709551615 : Nat) : Int) from rfl, bits_xor_u64_nat _ _ (by decide) hw]
    congr 1
    refine Nat.eq_of_testBit_eq fun i => ?_
    rw [Nat.testBit_xor, show 18446744073709551615 - w = 2 ^ 64 - (w + 1) by omega, Nat.testBit_two_pow_sub_succ (by omega), show 18446744073709551615 = 2 ^ 64 - 1 from rfl, Nat.testBit_two_pow_sub_one]
    by_cases hi : i < 64
    · simp [hi]
    · have : w.testBit i = false := Nat.testBit_lt_two_pow (Nat.lt_of_lt_of_le hw (Nat.pow_le_pow_right (n := 2) (by decide) (show 64 ≤ i by omega)))
      simp [hi, this]
  generalize (18446744073709551615 - w) &&& (2 ^ n - 1) = x at *
  generalize freeI w n = fr at *
  generalize hv : 18446744073709551615 - w = v at *
  generalize 2 ^ n - 1 = m at *
  have HF := Lib.hid (And.intro hf (And.intro hc (And.intro hz hbw)))
  clear hf hc hz hbw hv
  by_cases hx0 : x = 0
  · subst hx0
    obtain rfl := h0 rfl
    clear h0 h1
    go_enter Tryz.func235, Tryz.ntmps235
    go_wp2_with fail
    refine HF.out.1.mono ?_
    rintro e w1 ⟨rfl, rfl⟩
    go_wp2_with fail
    refine HF.out.2.1.mono ?_
    rintro e w1 ⟨rfl, rfl⟩
    go_wp2_with fail
    go_ret
    exact ⟨rfl, HF.out.2.2.2⟩
  · obtain rfl := h1 hx0
    have hx1 : ((x : Int) == 0) = false := by simp; omega
    have hx2 : ¬ (x : Int) = 0 := by omega
    clear h0 h1 hx0
    go_enter Tryz.func235, Tryz.ntmps235
    go_wp2_with fail
    refine HF.out.1.mono ?_
    rintro e w1 ⟨rfl, rfl⟩
    go_wp2_with fail
    refine HF.out.2.1.mono ?_
    rintro e w1 ⟨rfl, rfl⟩
    go_wp2_with fail
    refine HF.out.2.2.1.mono ?_
    rintro e w1 ⟨rfl, rfl⟩
    go_wp2_with fail
    go_ret
    exact ⟨rfl, HF.out.2.2.2⟩
end Go.Proofs.YtoaabbnieakidaaGreatDoorR

namespace Go.Proofs.YtoaabbnieakidaaGreatDoorR
open Go.RowKit Go.BigFrame Go.Maps Go.WideMaps Lf

theorem keys_mem {s : Slab} {p : Nat} : p ∈ s.keys ↔ ∃ l, (p, l) ∈ s.pages := by
  unfold Slab.keys
  simp
theorem page_none {s : Slab} {p : Nat} (h : p ∉ s.keys) : s.page? p = none := by
  unfold Slab.page?
  rw [List.lookup_eq_none_iff]
  intro x hx
  have : x.1 ≠ p := fun e => h (by unfold Slab.keys; exact List.mem_map.2 ⟨x, hx, e⟩)
  simpa using fun e => this e.symm
theorem page_some {s : Slab} {p : Nat} (h : p ∈ s.keys) : ∃ l, s.page? p = some l ∧ (p, l) ∈ s.pages := by
  unfold Slab.keys at h
  unfold Slab.page?
  generalize s.pages = l at *
  induction l with
  | nil => simp at h
  | cons x r ih =>
    by_cases e : p = x.1
    · subst e
      exact ⟨x.2, by simp [List.lookup], by simp⟩
    · have h' : p ∈ r.map (·.1) := by
        simp only [List.map_cons, List.mem_cons] at h
        exact h.resolve_left e
      obtain ⟨l, h1, h2⟩ := ih h'
      exact ⟨l, by rw [List.lookup_cons, show (p == x.1) = false by simpa using e]; exact h1, List.mem_cons_of_mem _ h2⟩
theorem err_top {s : Slab} {a : Nat} (h : lastAddr < a) : s.err a = 2 := by unfold Slab.err; rw [if_pos h]
theorem err_none {s : Slab} {a : Nat} (h : a ≤ lastAddr) (hp : a / 64 ∉ s.keys) : s.err a = 5 := by unfold Slab.err; rw [if_neg (by omega), page_none hp]
theorem err_ok {s : Slab} {a : Nat} (h : a ≤ lastAddr) (hp : a / 64 ∈ s.keys) : s.err a = 0 := by
  obtain ⟨l, h1, _⟩ := page_some hp
  unfold Slab.err
  rw [if_neg (by omega), h1]
theorem rd_none {s : Slab} {a : Nat} (hp : a / 64 ∉ s.keys) : s.rd a = 0 := by unfold Slab.rd; rw [page_none hp]
theorem rd_some {s : Slab} {a : Nat} {l : Page} (h : s.page? (a / 64) = some l) : s.rd a = l.getD (a % 64) 0 := by unfold Slab.rd; rw [h]

/-- the cell of a word -/
theorem SlabOn.word {w : World} {pa pm : Nat} {s : Slab} {Y : Nat → Prop} {blk : Nat → Nat} (h : SlabOn w pa pm s Y blk) {a : Nat} (hp : a / 64 ∈ s.keys) :
    w.cell? ⟨blk (a / 64), a % 64, none⟩ = some (.int .u64 (s.rd a : Nat)) ∧ w.frozen? ⟨blk (a / 64), a % 64, none⟩ = false := by
  obtain ⟨l, h1, h2⟩ := page_some hp
  have hb := h.pg _ h2
  have hl := h.wf.len _ h2
  refine ⟨?_, frozen_of_block hb⟩
  rw [cell_of_block hb, rd_some h1]
  simp only at hl
  have hlt : a % 64 < l.length := by omega
  simp [List.getElem?_eq_getElem hlt]
theorem SlabOn.rd_lt {w : World} {pa pm : Nat} {s : Slab} {Y : Nat → Prop} {blk : Nat → Nat} (h : SlabOn w pa pm s Y blk) (a : Nat) : s.rd a < 18446744073709551616 := by
  by_cases hp : a / 64 ∈ s.keys
  · obtain ⟨l, h1, h2⟩ := page_some hp
    rw [rd_some h1]
    have hl := h.wf.len _ h2
    simp only at hl
    have hlt : a % 64 < l.length := by omega
    rw [List.getD_eq_getElem?_getD, List.getElem?_eq_getElem hlt]
    exact h.wf.word _ h2 _ (List.getElem_mem hlt)
  · rw [rd_none hp]; decide

set_option maxRecDepth 100000 in
set_option maxHeartbeats 400000 in
theorem slab_none {w : World} {pa pm : Nat} {s : Slab} {Y : Nat → Prop} {blk : Nat → Nat} (h : SlabOn w pa pm s Y blk) :
    Calls Tryz.prog 200 #[PV pa] w fun e w' => e = .returned (.bool false) ∧ w = w' := by
  have c1 := h.cells.2
  have hm := run_eql_map_nil (P := Tryz.prog) w 197 3 300 (some pm) Tryz.underlying197
  clear h
  go_enter Tryz.func200, Tryz.ntmps200
  go_wp2
  go_ret
  exact ⟨rfl, rfl⟩

set_option maxRecDepth 100000 in
set_option maxHeartbeats 400000 in
theorem slab_at_no {w : World} {pa pm : Nat} {s : Slab} {Y : Nat → Prop} {blk : Nat → Nat} (h : SlabOn w pa pm s Y blk) (a : Nat) (ha : a ≤ 4611686018427387904) (hp : a / 64 ∉ s.keys ∨ lastAddr < a) :
    Calls Tryz.prog 161 #[PV pa, .int .i64 a] w fun e w' => e = .returned (.tuple #[.pointer none, .int .i64 (s.err a : Nat)]) ∧ w = w' := by
  have c1 := h.cells.2
  have hn := Lib.hid (slab_none h)
  have hl := h.look (a / 64) (by omega)
  rw [show ((a / 64 : Nat) : Int) = (a : Int) / 64 from by simp] at hl
  by_cases ht : lastAddr < a
  · have he := err_top (s := s) ht
    generalize s.err a = er at *
    subst he
    unfold lastAddr at ht
    clear hl hp h
    go_enter Tryz.func161, Tryz.ntmps161
    go_wp2_with fail
    refine hn.out.mono ?_
    rintro e w' ⟨rfl, rfl⟩
    go_wp2_with fail
    go_ret2
    exact ⟨rfl, rfl⟩
  · have hp' : a / 64 ∉ s.keys := hp.resolve_right ht
    have he := err_none (s := s) (by omega) hp'
    generalize s.err a = er at *
    subst he
    unfold lastAddr at ht
    have hv : pgV s.keys blk (a / 64) = .pointer none := by unfold pgV; rw [if_neg hp']
    rw [hv] at hl
    clear hv hp hp' h
    go_enter Tryz.func161, Tryz.ntmps161
    go_wp2_with fail
    refine hn.out.mono ?_
    rintro e w' ⟨rfl, rfl⟩
    go_wp2_with fail
    go_ret2
    exact ⟨rfl, rfl⟩

set_option maxRecDepth 100000 in
set_option maxHeartbeats 400000 in
theorem slab_at_ok {w : World} {pa pm : Nat} {s : Slab} {Y : Nat → Prop} {blk : Nat → Nat} (h : SlabOn w pa pm s Y blk) (a : Nat) (ha : a ≤ lastAddr) (hp : a / 64 ∈ s.keys) :
    Calls Tryz.prog 161 #[PV pa, .int .i64 a] w fun e w' => e = .returned (.tuple #[.pointer (some ⟨blk (a / 64), a % 64, none⟩), .int .i64 0]) ∧ w = w' := by
  unfold lastAddr at ha
  have c1 := h.cells.2
  have hn := Lib.hid (slab_none h)
  have hl := h.look (a / 64) (by omega)
  rw [show ((a / 64 : Nat) : Int) = (a : Int) / 64 from by simp] at hl
  have hv : pgV s.keys blk (a / 64) = PV (blk (a / 64)) := by unfold pgV; rw [if_pos hp]
  rw [hv] at hl
  have hq2 : ((a : Int) % 64).toNat = a % 64 := by omega
  have hq3 : (a : Int) % 64 < 64 := by omega
  have hq4 : 0 ≤ (a : Int) % 64 := by omega
  clear hv hp h
  generalize blk (a / 64) = b at *
  go_enter Tryz.func161, Tryz.ntmps161
  go_wp2_with fail
  refine hn.out.mono ?_
  rintro e w' ⟨rfl, rfl⟩
  go_wp2_with fail
  go_ret2
  exact ⟨rfl, rfl⟩
end Go.Proofs.YtoaabbnieakidaaGreatDoorR

namespace Go.Proofs.YtoaabbnieakidaaGreatDoorR
open Go.RowKit Go.BigFrame Go.Maps Go.WideMaps Lf

/-- what 'at' comes to -/
theorem SlabOn.atCases {w : World} {pa pm : Nat} {s : Slab} {Y : Nat → Prop} {blk : Nat → Nat} (h : SlabOn w pa pm s Y blk) (a : Nat) (ha : a ≤ 4611686018427387904) :
    ((s.err a = 0 ∧ a / 64 ∈ s.keys) ∧ Calls Tryz.prog 161 #[PV pa, .int .i64 a] w fun e w' => e = .returned (.tuple #[.pointer (some ⟨blk (a / 64), a % 64, none⟩), .int .i64 0]) ∧ w = w') ∨
    ((0 < s.err a ∧ s.rd a = 0 ∧ a / 64 ∉ s.keys) ∧ Calls Tryz.prog 161 #[PV pa, .int .i64 a] w fun e w' => e = .returned (.tuple #[.pointer none, .int .i64 (s.err a : Nat)]) ∧ w = w') := by
  by_cases ht : lastAddr < a
  · have hk : a / 64 ∉ s.keys := fun hk => by
      have := h.wf.top _ hk
      unfold lastAddr at ht
      omega
    exact Or.inr ⟨⟨by rw [err_top ht]; decide, rd_none hk, hk⟩, slab_at_no h a ha (Or.inr ht)⟩
  · by_cases hp : a / 64 ∈ s.keys
    · exact Or.inl ⟨⟨err_ok (by omega) hp, hp⟩, slab_at_ok h a (by omega) hp⟩
    · exact Or.inr ⟨⟨by rw [err_none (by omega) hp]; decide, rd_none hp, hp⟩, slab_at_no h a ha (Or.inl hp)⟩

set_option maxRecDepth 100000 in
set_option maxHeartbeats 400000 in
theorem slab_read {w : World} {pa pm : Nat} {s : Slab} {Y : Nat → Prop} {blk : Nat → Nat} (h : SlabOn w pa pm s Y blk) (a : Nat) (ha : a ≤ 4611686018427387904) :
    Calls Tryz.prog 117 #[PV pa, .int .i64 a] w fun e w' => e = .returned (.tuple #[.int .u64 (s.rd a : Nat), .int .i64 (s.err a : Nat)]) ∧ w = w' := by
  rcases h.atCases a ha with ⟨⟨he, hp⟩, hc⟩ | ⟨⟨he, hr, hp⟩, hc⟩
  · obtain ⟨c, _⟩ := h.word hp
    rw [he]
    generalize s.rd a = x at *
    generalize blk (a / 64) = b at *
    generalize a % 64 = o at *
    have HC := Lib.hid hc
    clear hc h he hp
    go_enter Tryz.func117, Tryz.ntmps117
    go_wp2_with fail
    refine HC.out.mono ?_
    rintro e w' ⟨rfl, rfl⟩
    go_wp2_with fail
    go_ret2
    exact ⟨rfl, rfl⟩
  · rw [hr]
    generalize s.err a = er at *
    have hb : ((er : Int) != 0) = true := by simp; omega
    have hb2 : ¬ (er : Int) = 0 := by omega
    have HC := Lib.hid hc
    clear hc h hr hp
    go_enter Tryz.func117, Tryz.ntmps117
    go_wp2_with fail
    refine HC.out.mono ?_
    rintro e w' ⟨rfl, rfl⟩
    go_wp2_with fail
    go_ret2
    exact ⟨rfl, rfl⟩

theorem wr_none {s : Slab} {a x : Nat} (hp : a / 64 ∉ s.keys) : s.wr a x = s := by
  unfold Slab.wr
  have : (s.pages.map fun y => if y.1 = a / 64 then (y.1, y.2.set (a % 64) x) else y) = s.pages := by
    conv => rhs; rw [← List.map_id s.pages]
    refine List.map_congr_left fun y hy => ?_
    have : y.1 ≠ a / 64 := fun e => hp (by unfold Slab.keys; exact List.mem_map.2 ⟨y, hy, e⟩)
    simp [this]
  rw [this]
theorem keys_wr (s : Slab) (a x : Nat) : (s.wr a x).keys = s.keys := by
  unfold Slab.wr Slab.keys
  simp only [List.map_map]
  refine List.map_congr_left fun y _ => ?_
  simp only [Function.comp_apply]
  split <;> rfl
theorem pages_wr_length (s : Slab) (a x : Nat) : (s.wr a x).pages.length = s.pages.length := by
  unfold Slab.wr
  simp
theorem mem_wr {s : Slab} {a x : Nat} {y : Nat × Page} (h : y ∈ (s.wr a x).pages) : ∃ l, (y.1, l) ∈ s.pages ∧ y.2 = if y.1 = a / 64 then l.set (a % 64) x else l := by
  unfold Slab.wr at h
  simp only [List.mem_map] at h
  obtain ⟨z, hz, rfl⟩ := h
  by_cases e : z.1 = a / 64
  · exact ⟨z.2, by simp [e]; rw [← e]; exact hz, by simp [e]⟩
  · exact ⟨z.2, by simp [e]; exact hz, by simp [e]⟩
theorem mem_set_word {l : List Nat} {i x v : Nat} (h : v ∈ l.set i x) : v ∈ l ∨ v = x := by
  exact List.mem_or_eq_of_mem_set h
theorem SlabWF.wr {s : Slab} (h : SlabWF s) (a x : Nat) (hx : x < 18446744073709551616) : SlabWF (s.wr a x) where
  sorted := by rw [keys_wr]; exact h.sorted
  len := fun y hy => by
    obtain ⟨l, h1, h2⟩ := mem_wr hy
    rw [h2]
    have := h.len _ h1
    simp only at this
    split
    · rw [List.length_set]; exact this
    · exact this
  word := fun y hy v hv => by
    obtain ⟨l, h1, h2⟩ := mem_wr hy
    rw [h2] at hv
    have := h.word _ h1
    simp only at this
    split at hv
    · rcases mem_set_word hv with hv | hv
      · exact this v hv
      · rw [hv]; exact hx
    · exact this v hv
  top := by rw [keys_wr]; exact h.top
  room := by rw [pages_wr_length]; exact h.room
  quota := h.quota

theorem heap_setCell {w : World} {b i : Nat} {cs : Array Value} {t : TypeId} {fr : Nat × Nat} {v : Value} (h : w.heap[b]? = some (.cells cs t fr)) : (w.setCell ⟨b, i, none⟩ v).heap[b]? = some (.cells (cs.setIfInBounds i v) t fr) := by
  simp [World.setCell, Array.getElem?_modify, h]
theorem heap_setCell_ne {w : World} {b k i : Nat} {v : Value} (h : k ≠ b) : (w.setCell ⟨b, i, none⟩ v).heap[k]? = w.heap[k]? := Below.heap_setCell w ⟨b, i, none⟩ v k h
theorem size_setCell (w : World) (a : Addr) (v : Value) : (w.setCell a v).heap.size = w.heap.size := by simp [World.setCell]

theorem ownsMap_of_block {w w' : World} {P : Program} {k : TypeId} {R : Value → Option (DataW Unit × List MemPlace)} {b n : Nat} {D : DataW Unit} (h : w.ownsMap P k R b n D) (hb : w'.heap[b]? = w.heap[b]?) : w'.ownsMap P k R b n D := by
  obtain ⟨es, clock, h1, F, hs, hD⟩ := h
  exact ⟨es, clock, hb.trans h1, F, hs, hD⟩
theorem SlabOn.map_block {w : World} {pa pm : Nat} {s : Slab} {Y : Nat → Prop} {blk : Nat → Nat} (h : SlabOn w pa pm s Y blk) : ∃ es clock, w.heap[pm]? = some (.map es clock) := by
  obtain ⟨es, clock, h1, _⟩ := h.map
  exact ⟨es, clock, h1⟩

/-- the arena behind a store into a page -/
theorem SlabOn.store {w : World} {pa pm : Nat} {s : Slab} {Y : Nat → Prop} {blk : Nat → Nat} (h : SlabOn w pa pm s Y blk) (a x : Nat) (hx : x < 18446744073709551616) (hp : a / 64 ∈ s.keys) :
    SlabOn (w.setCell ⟨blk (a / 64), a % 64, none⟩ (.int .u64 x)) pa pm (s.wr a x) Y blk ∧ Keep Y w (w.setCell ⟨blk (a / 64), a % 64, none⟩ (.int .u64 x)) := by
  obtain ⟨l, h1, h2⟩ := page_some hp
  have hb := h.pg _ h2
  simp only at hb
  have n1 : pa ≠ blk (a / 64) := fun e => by
    rw [← e, h.hd] at hb
    injection hb with hb
    injection hb with _ hb
    exact absurd hb (by decide)
  have n2 : pm ≠ blk (a / 64) := fun e => by
    obtain ⟨es, clock, hm⟩ := h.map_block
    rw [← e, hm] at hb
    cases hb
  have hY : ∀ k, Y k → k ≠ blk (a / 64) := fun k hk e => h.yp _ hp (by rw [← e]; exact hk)
  refine ⟨⟨h.wf.wr a x hx, ?_, ?_, ?_, ?_, h.ya, h.ym, ?_, ?_⟩, ⟨rfl, rfl, rfl, by rw [size_setCell]; exact Nat.le_refl _, fun k hk => heap_setCell_ne (hY k hk)⟩⟩
  · rw [heap_setCell_ne n1]
    exact h.hd
  · rw [pages_wr_length, keys_wr]
    exact ownsMap_of_block h.map (heap_setCell_ne n2)
  · intro y hy
    obtain ⟨m, k1, k2⟩ := mem_wr hy
    have hm := h.pg _ k1
    simp only at hm
    have hyk : y.1 ∈ s.keys := keys_mem.2 ⟨_, k1⟩
    by_cases e : y.1 = a / 64
    · rw [k2, if_pos e]
      rw [e] at hm ⊢
      rw [heap_setCell hm]
      congr 2
      simp [List.map_set]
    · rw [k2, if_neg e, heap_setCell_ne (fun e2 => e (h.inj _ hyk _ hp e2))]
      exact hm
  · rw [keys_wr]; exact h.inj
  · rw [keys_wr]; exact h.yp
  · intro k hk
    rw [size_setCell]
    exact h.yl k hk

set_option maxRecDepth 100000 in
set_option maxHeartbeats 400000 in
theorem slab_write {w : World} {pa pm : Nat} {s : Slab} {Y : Nat → Prop} {blk : Nat → Nat} (h : SlabOn w pa pm s Y blk) (a x : Nat) (ha : a ≤ 4611686018427387904) (hx : x < 18446744073709551616) :
    Calls Tryz.prog 137 #[PV pa, .int .i64 a, .int .u64 x] w fun e w' => e = .returned (.int .i64 (s.err a : Nat)) ∧ SlabOn w' pa pm (s.wr a x) Y blk ∧ Keep Y w w' := by
  rcases h.atCases a ha with ⟨⟨he, hp⟩, hc⟩ | ⟨⟨he, hr, hp⟩, hc⟩
  · obtain ⟨c, f⟩ := h.word hp
    have HS := Lib.hid (h.store a x hx hp)
    rw [he]
    generalize s.rd a = x0 at *
    generalize s.wr a x = s1 at *
    generalize blk (a / 64) = b at *
    generalize a % 64 = o at *
    have HC := Lib.hid hc
    clear hc h he hp
    go_enter Tryz.func137, Tryz.ntmps137
    go_wp2_with fail
    refine HC.out.mono ?_
    rintro e w' ⟨rfl, rfl⟩
    go_wp2_with fail
    go_ret
    exact ⟨rfl, HS.out⟩
  · rw [wr_none hp]
    generalize s.err a = er at *
    have hb : ((er : Int) == 0) = false := by simp; omega
    have hb2 : ¬ (er : Int) = 0 := by omega
    have HC := Lib.hid (And.intro hc h)
    clear hc h hr hp
    go_enter Tryz.func137, Tryz.ntmps137
    go_wp2_with fail
    refine HC.out.1.mono ?_
    rintro e w' ⟨rfl, rfl⟩
    go_wp2_with fail
    go_ret
    exact ⟨rfl, HC.out.2, Keep.refl _ _⟩
end Go.Proofs.YtoaabbnieakidaaGreatDoorR
