/- The store's records stay apart and short: what put, and rows of puts, leave as it was: plain. Texts as words: what is laid byte by byte, and what is read again: plain. Texts: Many, the closure that lays a byte, slices.Equal at words: the walks. Texts: Words: the walk. -/
import Derived.Test.YtoaabbnieakidaaGreatDoorRGaj
import Derived.Test.YtoaabbnieakidaaGreatDoorRGaa
import Derived.Test.YtoaabbnieakidaaGreatDoorRGae
import Derived.Test.YtoaabbnieakidaaGreatDoorRGac
import Derived.Lib.ItoaWalk
import Derived.Deep.OwnRows
import Derived.Laws.IdiomStrings
namespace Go.Proofs.YtoaabbnieakidaaGreatDoorR
open Lf

theorem lookup_map_set (p i x : Nat) : ∀ (l : List (Nat × Page)) (q : Nat), (l.map fun y => if y.1 = p then (y.1, y.2.set i x) else y).lookup q = (l.lookup q).map fun t => if q = p then t.set i x else t
  | [], q => rfl
  | (a, t) :: l, q => by
    have ih := lookup_map_set p i x l q
    by_cases h2 : a = p
    · have e : ((a, t) :: l).map (fun y => if y.1 = p then (y.1, y.2.set i x) else y) = (a, t.set i x) :: l.map (fun y => if y.1 = p then (y.1, y.2.set i x) else y) := by simp [h2]
      rw [e, List.lookup_cons, List.lookup_cons]
      by_cases h1 : q = a
      · simp [h1, h2]
      · have h1' : (q == a) = false := by simpa using h1
        simp only [h1']
        exact ih
    · have e : ((a, t) :: l).map (fun y => if y.1 = p then (y.1, y.2.set i x) else y) = (a, t) :: l.map (fun y => if y.1 = p then (y.1, y.2.set i x) else y) := by simp [h2]
      rw [e, List.lookup_cons, List.lookup_cons]
      by_cases h1 : q = a
      · simp [h1, h2]
      · have h1' : (q == a) = false := by simpa using h1
        simp only [h1']
        exact ih
theorem Lf.Slab.page?_wr (s : Slab) (a x q : Nat) : (s.wr a x).page? q = (s.page? q).map fun t => if q = a / 64 then t.set (a % 64) x else t := lookup_map_set (a / 64) (a % 64) x s.pages q
theorem Lf.Slab.rd_wr_ne (s : Slab) (a x b : Nat) (h : b ≠ a) : (s.wr a x).rd b = s.rd b := by
  unfold Slab.rd
  rw [Slab.page?_wr]
  cases s.page? (b / 64) with
  | none => rfl
  | some t =>
    simp only [Option.map_some]
    by_cases e : b / 64 = a / 64
    · rw [if_pos e]
      have : a % 64 ≠ b % 64 := by omega
      simp [List.getD_eq_getElem?_getD, List.getElem?_set_ne this]
    · rw [if_neg e]
theorem Lf.Slab.err_wr (s : Slab) (a x b : Nat) : (s.wr a x).err b = s.err b := by
  unfold Slab.err
  rw [Slab.page?_wr]
  cases s.page? (b / 64) <;> rfl
theorem Lf.St.place_some {S : St} {h k p : Nat} (hp : S.place h k = (p, 0)) : ∃ j, S.t.of h = some j ∧ ∃ hj : j < S.t.slots.length, p = S.t.slots[j].addr + 2 + k ∧ k < S.a.rd (S.t.slots[j].addr + 1) ∧ S.t.slots[j].is = 1 := by
  cases hk : S.t.of h with
  | none =>
    unfold St.place at hp
    rw [St.at_none hk] at hp
    simp at hp
  | some j =>
    obtain ⟨hj, h1, _⟩ := Tab.of_lt hk
    refine ⟨j, rfl, hj, ?_⟩
    unfold St.place at hp
    rw [St.at_some hk hj] at hp
    simp only at hp
    split at hp
    · rename_i hlt
      simp only [Prod.mk.injEq, and_true] at hp
      exact ⟨hp.symm, hlt, h1⟩
    · simp at hp
/-- a word of a record is no record's length -/
theorem Inv.place_ne {S : St} (hi : Inv S) {h k p : Nat} (hp : S.place h k = (p, 0)) (i : Nat) (hl : i < S.t.slots.length) (h1 : S.t.slots[i].is = 1) : S.t.slots[i].addr + 1 ≠ p := by
  obtain ⟨j, _, hj, rfl, hk, h2⟩ := St.place_some hp
  by_cases e : i = j
  · subst e; omega
  · have := hi.apart i j hl hj e h1 h2
    omega
theorem Inv.put {S : St} (hi : Inv S) (h k x : Nat) : Inv (S.put h k x).2 := by
  rw [St.put_place]
  rcases S.place_cases h k with ⟨p, hp⟩ | ⟨e, hp⟩
  · rw [hp]
    have key : ∀ (i : Nat) (hl : i < S.t.slots.length), S.t.slots[i].is = 1 → (S.a.wr p x).rd (S.t.slots[i].addr + 1) = S.a.rd (S.t.slots[i].addr + 1) := fun i hl h1 => Slab.rd_wr_ne _ _ _ _ (hi.place_ne hp i hl h1)
    refine ⟨fun i hl h1 => ?_, fun i j hl hj hne h1 h2 => ?_⟩
    · have h1' : S.t.slots[i].is = 1 := h1
      show (S.a.wr p x).rd (S.t.slots[i].addr + 1) ≤ 3998 ∧ _
      rw [key i hl h1']
      exact hi.len i hl h1'
    · show S.t.slots[i].addr + 2 + (S.a.wr p x).rd (S.t.slots[i].addr + 1) ≤ S.t.slots[j].addr ∨ S.t.slots[j].addr + 2 + (S.a.wr p x).rd (S.t.slots[j].addr + 1) ≤ S.t.slots[i].addr
      rw [key i hl h1, key j hj h2]
      exact hi.apart i j hl hj hne h1 h2
  · rw [hp]; exact hi
theorem put_t (S : St) (h k x : Nat) : (S.put h k x).2.t = S.t := by
  rw [St.put_place]
  rcases S.place_cases h k with ⟨p, hp⟩ | ⟨e, hp⟩ <;> · rw [hp]; rfl
theorem Inv.put_at {S : St} (hi : Inv S) (h k x h' : Nat) : (S.put h k x).2.at h' = S.at h' := by
  cases hk : S.t.of h' with
  | none => rw [St.at_none hk, St.at_none (by rw [put_t]; exact hk)]
  | some j =>
    obtain ⟨hj, h1, _⟩ := Tab.of_lt hk
    rw [St.at_some hk hj]
    rw [St.put_place]
    rcases S.place_cases h k with ⟨p, hp⟩ | ⟨e, hp⟩
    · rw [hp]
      refine (St.at_some (S := { S with a := S.a.wr p x }) (h := h') hk hj).trans ?_
      show (S.t.slots[j].addr, (S.a.wr p x).rd (S.t.slots[j].addr + 1), 0) = _
      rw [Slab.rd_wr_ne _ _ _ _ (hi.place_ne hp j hj h1)]
    · rw [hp]; exact St.at_some hk hj
theorem putWords_inv (h : Nat) : ∀ (l : List Nat) (S : St) (k : Nat), Inv S → Inv (putWords S h k l) ∧ (∀ h', (putWords S h k l).at h' = S.at h') ∧ (putWords S h k l).t = S.t
  | [], S, k, hi => ⟨hi, fun _ => rfl, rfl⟩
  | x :: r, S, k, hi => by
    obtain ⟨h1, h2, h3⟩ := putWords_inv h r (S.put h k x).2 (k + 1) (hi.put h k x)
    exact ⟨h1, fun h' => (h2 h').trans (hi.put_at h k x h'), h3.trans (put_t S h k x)⟩
theorem at_zero (S : St) : S.at 0 = (0, 0, 7) := St.at_none (by rfl)
theorem len_zero (S : St) : S.len 0 = (0, 7) := by unfold St.len; rw [at_zero]
end Go.Proofs.YtoaabbnieakidaaGreatDoorR

namespace Go.Proofs.YtoaabbnieakidaaGreatDoorR.Lf

def byteAt (l : List UInt8) (i : Nat) : Nat := (l.getD i 0).toNat
theorem byteAt_lt (l : List UInt8) (i : Nat) : byteAt l i < 256 := (l.getD i 0).toNat_lt
/-- the first r bytes of chunk j -/
def part (l : List UInt8) (j : Nat) : Nat → Nat
  | 0 => 0
  | r + 1 => part l j r * 256 + byteAt l (8 * j + r)
theorem part_lt (l : List UInt8) (j : Nat) : ∀ r, part l j r < 256 ^ r
  | 0 => by simp [part]
  | r + 1 => by
    have := part_lt l j r
    have := byteAt_lt l (8 * j + r)
    simp only [part, Nat.pow_succ]
    omega
theorem chunk_eq (l : List UInt8) (j : Nat) : chunk (l.drop (8 * j)) = part l j 8 := by
  have h : ∀ q, (l.drop (8 * j)).getD q 0 = l.getD (8 * j + q) 0 := fun q => by
    simp [List.getD_eq_getElem?_getD, List.getElem?_drop]
  simp only [chunk, show List.range 8 = [0, 1, 2, 3, 4, 5, 6, 7] from rfl, List.foldl_cons, List.foldl_nil, h]
  simp [part, byteAt]
def cell (l : List UInt8) (j r : Nat) : Nat := part l j r * 256 ^ (8 - r)
theorem cell_lt (l : List UInt8) (j r : Nat) (h : r ≤ 8) : cell l j r < 18446744073709551616 := by
  have h1 := part_lt l j r
  have h2 : 256 ^ r * 256 ^ (8 - r) = 18446744073709551616 := by rw [← Nat.pow_add, show r + (8 - r) = 8 by omega]
  have h3 : 0 < 256 ^ (8 - r) := Nat.pow_pos (by decide)
  unfold cell
  rw [← h2]
  exact Nat.mul_lt_mul_of_pos_right h1 h3
theorem cell_succ (l : List UInt8) (j r : Nat) (h : r < 8) : cell l j (r + 1) = cell l j r + byteAt l (8 * j + r) * 2 ^ (8 * (7 - r)) := by
  have e : 256 ^ (8 - r) = 256 * 256 ^ (7 - r) := by rw [show 8 - r = (7 - r) + 1 by omega, Nat.pow_succ, Nat.mul_comm]
  have e2 : 2 ^ (8 * (7 - r)) = 256 ^ (7 - r) := by rw [Nat.pow_mul]
  unfold cell
  rw [e, e2, show 8 - (r + 1) = 7 - r by omega]
  simp only [part, Nat.add_mul, Nat.mul_assoc]
theorem cell_or (l : List UInt8) (j r : Nat) (h : r < 8) : cell l j r ||| byteAt l (8 * j + r) * 2 ^ (8 * (7 - r)) = cell l j (r + 1) := by
  have e : cell l j r = part l j r <<< (8 * (8 - r)) := by
    rw [Nat.shiftLeft_eq, Nat.pow_mul]; rfl
  have h1 : byteAt l (8 * j + r) * 2 ^ (8 * (7 - r)) < 2 ^ (8 * (8 - r)) := by
    rw [show 8 * (8 - r) = 8 + 8 * (7 - r) by omega, Nat.pow_add]
    exact Nat.mul_lt_mul_of_pos_right (byteAt_lt _ _) (Nat.pow_pos (by decide))
  rw [cell_succ l j r h, e]
  exact (Nat.shiftLeft_add_eq_or_of_lt h1 _).symm
theorem cell_zero (l : List UInt8) (j : Nat) : cell l j 0 = 0 := by simp [cell, part]
theorem byteAt_ge (l : List UInt8) (i : Nat) (h : l.length ≤ i) : byteAt l i = 0 := by
  simp [byteAt, List.getD_eq_getElem?_getD, List.getElem?_eq_none h]
theorem cell_full (l : List UInt8) (j r : Nat) (h : l.length ≤ 8 * j + r) : ∀ d, r + d ≤ 8 → cell l j (r + d) = cell l j r
  | 0, _ => rfl
  | d + 1, hd => by
    have := cell_succ l j (r + d) (by omega)
    rw [byteAt_ge l _ (by omega), Nat.zero_mul, Nat.add_zero] at this
    rw [← Nat.add_assoc, this]
    exact cell_full l j r h d (by omega)
theorem cell_8 (l : List UInt8) (j : Nat) : cell l j 8 = chunk (l.drop (8 * j)) := by rw [chunk_eq]; simp [cell]
/-- the row of words behind the first i bytes -/
def laid (l : List UInt8) (i : Nat) : List Nat := l.length :: (List.range ((l.length + 7) / 8)).map fun j => cell l j (min 8 (i - 8 * j))
theorem laid_length (l : List UInt8) (i : Nat) : (laid l i).length = 1 + (l.length + 7) / 8 := by simp [laid]; omega
theorem laid_zero (l : List UInt8) : laid l 0 = l.length :: List.replicate ((l.length + 7) / 8) 0 := by
  unfold laid
  congr 1
  apply List.ext_getElem (by simp)
  intro n h1 h2
  simp [cell_zero]
theorem laid_full (l : List UInt8) : laid l l.length = wordsOf l := by
  unfold laid wordsOf chunks
  congr 1
  apply List.map_congr_left
  intro j hj
  rw [← cell_8]
  by_cases h : 8 * j + 8 ≤ l.length
  · rw [Nat.min_eq_left (by omega)]
  · rw [Nat.min_eq_right (by omega)]
    have := cell_full l j (l.length - 8 * j) (by omega) (8 - (l.length - 8 * j)) (by omega)
    rw [← this]
    congr 1
    omega
theorem laid_at (l : List UInt8) (i : Nat) (h : i < l.length) : (laid l i)[1 + i / 8]? = some (cell l (i / 8) (i % 8)) := by
  unfold laid
  rw [Nat.add_comm 1, List.getElem?_cons_succ, List.getElem?_map, List.getElem?_range (by omega)]
  simp only [Option.map_some, Option.some.injEq]
  congr 1
  omega
theorem laid_succ (l : List UInt8) (i : Nat) : laid l (i + 1) = (laid l i).set (1 + i / 8) (cell l (i / 8) (i % 8 + 1)) := by
  unfold laid
  rw [Nat.add_comm 1, List.set_cons_succ]
  congr 1
  apply List.ext_getElem (by simp)
  intro n h1 h2
  rw [List.getElem_set]
  simp only [List.getElem_map, List.getElem_range]
  by_cases e : i / 8 = n
  · rw [if_pos e]
    subst e
    congr 1
    omega
  · rw [if_neg e]
    congr 1
    omega
theorem laid_lt (l : List UInt8) (i : Nat) (hl : l.length < 18446744073709551616) : ∀ x ∈ laid l i, x < 18446744073709551616 := by
  intro x hx
  unfold laid at hx
  rcases List.mem_cons.1 hx with rfl | hx
  · exact hl
  · obtain ⟨j, _, rfl⟩ := List.mem_map.1 hx
    exact cell_lt _ _ _ (Nat.min_le_left _ _)
theorem wordsOf_length (l : List UInt8) : (wordsOf l).length = 1 + (l.length + 7) / 8 := by rw [← laid_full, laid_length]
theorem wordsOf_many (l : List UInt8) (h : l.length ≤ 1000) : (wordsOf l).length = many l.length := by
  rw [wordsOf_length]
  unfold many
  rw [if_neg (by omega)]
theorem wordsOf_lt (l : List UInt8) (hl : l.length < 18446744073709551616) : ∀ x ∈ wordsOf l, x < 18446744073709551616 := by rw [← laid_full]; exact laid_lt l _ hl
theorem wordsOf_at (l : List UInt8) (i : Nat) (h : i < l.length) : (wordsOf l)[1 + i / 8]? = some (cell l (i / 8) 8) := by
  unfold wordsOf chunks
  rw [Nat.add_comm 1, List.getElem?_cons_succ, List.getElem?_map, List.getElem?_range (by omega)]
  simp only [Option.map_some, Option.some.injEq]
  exact (cell_8 _ _).symm
/-- a byte of a chunk -/
theorem cell_byte (l : List UInt8) (j : Nat) : ∀ d r, r + d = 7 → cell l j 8 / 2 ^ (8 * d) % 256 = byteAt l (8 * j + r) := by
  intro d r hr
  have key : ∀ k, k ≤ 8 - (r + 1) → part l j (r + 1 + k) / 256 ^ k = part l j (r + 1) := by
    intro k
    induction k with
    | zero => intro _; simp
    | succ k ih =>
      intro hk
      rw [show r + 1 + (k + 1) = (r + 1 + k) + 1 by omega]
      simp only [part]
      rw [Nat.pow_succ, Nat.mul_comm (256 ^ k), ← Nat.div_div_eq_div_mul]
      have hb := byteAt_lt l (8 * j + (r + 1 + k))
      rw [show (part l j (r + 1 + k) * 256 + byteAt l (8 * j + (r + 1 + k))) / 256 = part l j (r + 1 + k) by omega]
      exact ih (by omega)
  have h1 := key d (by omega)
  have e : cell l j 8 = part l j 8 := by simp [cell]
  have e8 : part l j 8 = part l j (r + 1 + d) := by rw [show r + 1 + d = 8 by omega]
  rw [e, Nat.pow_mul, show (2 : Nat) ^ 8 = 256 from rfl, e8, h1]
  simp only [part]
  have hb := byteAt_lt l (8 * j + r)
  omega
theorem bytesOf_wordsOf (l : List UInt8) : bytesOf (wordsOf l) l.length = l := by
  unfold bytesOf
  apply List.ext_getElem (by simp)
  intro i h1 h2
  simp only [List.getElem_map, List.getElem_range]
  rw [List.getD_eq_getElem?_getD, wordsOf_at l i h2]
  simp only [Option.getD_some]
  have h := cell_byte l (i / 8) (7 - i % 8) (i % 8) (by omega)
  rw [show 8 * (i / 8) + i % 8 = i by omega, Nat.pow_mul, show (2 : Nat) ^ 8 = 256 from rfl] at h
  apply UInt8.toNat_inj.1
  rw [UInt8.toNat_ofNat']
  rw [show (2 : Nat) ^ 8 = 256 from rfl, h]
  simp [byteAt, List.getD_eq_getElem?_getD, List.getElem?_eq_getElem h2]
theorem textOf_wordsOf (l : List UInt8) (h : l.length ≤ 1000) : textOf (wordsOf l) = some l := by
  have h1 := wordsOf_many l h
  have h2 := bytesOf_wordsOf l
  have e : ∃ r, wordsOf l = l.length :: r := ⟨_, rfl⟩
  obtain ⟨r, e⟩ := e
  rw [e] at h1 h2 ⊢
  unfold textOf
  simp only
  rw [if_neg (by omega), h2, ← e, if_pos rfl]
theorem textOf_some {ws : List Nat} {l : List UInt8} (h : textOf ws = some l) : l.length ≤ 1000 ∧ ws = wordsOf l := by
  unfold textOf at h
  split at h
  · cases h
  · rename_i n r
    split at h
    · cases h
    · rename_i hn
      split at h
      · rename_i hw
        injection h with h
        have hl : l.length = n := by rw [← h]; simp [bytesOf]
        rw [h] at hw
        exact ⟨by omega, hw.symm⟩
      · cases h
end Go.Proofs.YtoaabbnieakidaaGreatDoorR.Lf

namespace Go.Proofs.YtoaabbnieakidaaGreatDoorR
open Go.RowKit Go.BigFrame Go.Maps Go.WideMaps Lf

set_option maxRecDepth 100000 in
set_option maxHeartbeats 400000 in
theorem text_many (n : Nat) (w : World) (hn : n ≤ 1099511627776) :
    Calls Tryz.prog 94 #[.int .i64 n] w fun e w' => e = .returned (.int .i64 (many n : Nat)) ∧ w = w' := by
  unfold many
  by_cases h : 1000 < n
  · rw [if_pos h]
    have h' : (1000 : Int) < n := by omega
    go_enter Tryz.func94, Tryz.ntmps94
    go_wp2
    go_ret
    exact ⟨rfl, rfl⟩
  · rw [if_neg h]
    have h' : (n : Int) ≤ 1000 := by omega
    have hq : ((1 + (n + 7) / 8 : Nat) : Int) = 1 + ((n : Int) + 7) / 8 := by omega
    rw [hq]
    clear h hq
    go_enter Tryz.func94, Tryz.ntmps94
    go_wp2
    go_ret
    exact ⟨by simp; omega, rfl⟩

set_option maxRecDepth 100000 in
set_option maxHeartbeats 1600000 in
theorem text_lay {w : World} {B G m cap i c x y : Nat} (hb : w.cell? ⟨B, 0, none⟩ = some (.slice (some ⟨G, 0, none⟩) m cap)) (hi : 1 + i / 8 < m) (hm : m ≤ 200)
    (hx : w.cell? ⟨G, 1 + i / 8, none⟩ = some (.int .u64 x)) (hf : w.frozen? ⟨G, 1 + i / 8, none⟩ = false) (hxl : x < 18446744073709551616) (hc : c < 256) (hy : x ||| c * 2 ^ (8 * (7 - i % 8)) = y) :
    Calls Tryz.prog 194 #[.int .i64 i, .int .u8 c, PV B] w fun e w' => e = .returned (.tuple #[]) ∧ ∃ q, w' = (w.drewN q).setCell ⟨G, 1 + i / 8, none⟩ (.int .u64 y) := by
  obtain ⟨q, hq⟩ : ∃ q, i / 8 = q := ⟨_, rfl⟩
  obtain ⟨r, hr⟩ : ∃ r, i % 8 = r := ⟨_, rfl⟩
  have hr8 : r < 8 := by omega
  obtain ⟨s, hs⟩ : ∃ s, 8 * (7 - r) = s := ⟨_, rfl⟩
  rw [hq] at hi hx hf ⊢
  rw [hr, hs] at hy
  have hq' : (i : Int) / 8 = (q : Int) := by omega
  have hr' : (i : Int) % 8 = (r : Int) := by omega
  have hs' : 8 * (7 - (r : Int)) = (s : Int) := by omega
  have hi9 : i < 9223372036854775807 := by omega
  go_enter Tryz.func194, Tryz.ntmps194
  go_wp2_with fail
  refine wp_region_quiet_tail (C := fun w' => ∃ q : Nat, w' = (w).drewN q) 15 (by kernel_rfl) (by kernel_rfl) ⟨1, rfl⟩ ?_
  simp only [List.take_succ_cons, List.take_zero, List.drop_succ_cons, List.drop_zero]
  repeat (first | go_big_quiet_skip | (go_big_quiet_want; go_big_quiet_op; first | go_big_quiet_on))
  refine wpQuiet_nil ?_
  rintro _ ⟨q, rfl⟩
  go_wp2_with fail
  have hw : IntKind.u64.wrap ((c : Int) * 2 ^ s) = ((c * 2 ^ s : Nat) : Int) := by
    have h1 : c * 2 ^ s < 256 * 2 ^ 56 := Nat.lt_of_lt_of_le (Nat.mul_lt_mul_of_pos_right hc (Nat.pow_pos (by decide))) (Nat.mul_le_mul_left _ (Nat.pow_le_pow_right (by decide) (by omega)))
    have h2 : ((c : Int) * 2 ^ s) = ((c * 2 ^ s : Nat) : Int) := by push_cast; rfl
    rw [h2]
    show ((c * 2 ^ s : Nat) : Int) % 18446744073709551616 = _
    omega
  have h1 : c * 2 ^ s < 18446744073709551616 := Nat.lt_of_lt_of_le (Nat.mul_lt_mul_of_pos_right hc (Nat.pow_pos (by decide))) (Nat.mul_le_mul_left 256 (Nat.pow_le_pow_right (n := 2) (by decide) (show s ≤ 56 by omega)))
  rw [hw, bits_or_u64_nat _ _ hxl h1, hy]
  go_end0
  exact ⟨rfl, _, rfl⟩

/-- a row of words in memory -/
def RowU (w : World) (B : Nat) (v : Value) (ws : List Nat) : Prop := ∃ G c, v = .slice (some ⟨G, 0, none⟩) ws.length c ∧ B ≤ G ∧ ∀ (i : Nat) (h : i < ws.length), w.cell? ⟨G, i, none⟩ = some (.int .u64 (ws[i] : Nat))
theorem RowU.below {w w' : World} {B : Nat} {v : Value} {ws : List Nat} (h : RowU w B v ws) (hb : Below w.heap.size w w') : RowU w' B v ws := by
  obtain ⟨G, c, rfl, hB, hc⟩ := h
  refine ⟨G, c, rfl, hB, fun i hi => ?_⟩
  have h1 := hc i hi
  have hlt : G < w.heap.size := by
    unfold World.cell? at h1
    split at h1
    · rename_i heq; exact (Array.getElem?_eq_some_iff.1 heq).1
    · cases h1
  exact (hb.cell (p := ⟨G, i, none⟩) hlt).trans h1

set_option maxRecDepth 100000 in
set_option maxHeartbeats 1600000 in
theorem words_equal {w : World} {B B' : Nat} {v v' : Value} {ws : List Nat} (h : RowU w B v ws) (h' : RowU w B' v' ws) (hl : ws.length ≤ 100000) :
    Calls Tryz.prog 168 #[v, v'] w fun e w' => e = .returned (.bool true) ∧ ∃ q, w' = w.drewN q := by
  obtain ⟨G, c, rfl, _, hc⟩ := h
  obtain ⟨G', c', rfl, _, hc'⟩ := h'
  obtain ⟨n, hn⟩ : ∃ n, ws.length = n := ⟨_, rfl⟩
  rw [hn] at hl
  have H := Lib.hid (And.intro hc (And.intro hc' hn))
  rw [hn]
  clear hc hc' hn
  go_enter Tryz.func168, Tryz.ntmps168
  go_wp2_with fail
  go_loopw [13] (fun i wr => ∃ k : Nat, k ≤ n ∧ i = .int .i64 k ∧ ∃ q, wr = w.drewN q) (fun i _ => n - (intOf i).toNat)
  case atStart => exact ⟨0, by omega, rfl, 0, rfl⟩
  case round =>
    obtain ⟨k, hk, rfl, q, rfl⟩ := hrel
    by_cases hlt : k < n
    · have hlt' : (k : Int) < n := by omega
      have c1 := H.out.1 k (by rw [H.out.2.2]; exact hlt)
      have c2 := H.out.2.1 k (by rw [H.out.2.2]; exact hlt)
      generalize ws[k]'(by rw [H.out.2.2]; exact hlt) = x at c1 c2
      go_wp2_with fail
      go_quiet (fail)
      go_wp2_with fail
      go_roundw
      case rel => exact ⟨k + 1, by omega, by simp, _, rfl⟩
      case measure => simp [intOf]; omega
    · obtain rfl : k = n := by omega
      go_wp2_with fail
      go_ret
      exact ⟨rfl, _, rfl⟩
end Go.Proofs.YtoaabbnieakidaaGreatDoorR

namespace Go.Proofs.YtoaabbnieakidaaGreatDoorR
open Go.RowKit Go.BigFrame Go.Maps Go.WideMaps Lf

/-- a text as a value -/
abbrev SV (l : List UInt8) : Value := .string ⟨l.toArray⟩

set_option maxRecDepth 100000 in
set_option maxHeartbeats 400000 in
theorem text_words_long (l : List UInt8) (w : World) (hl : 1000 < l.length) (hl2 : l.length ≤ 1099511627776) :
    Calls Tryz.prog 138 #[SV l] w fun e w' => e = .returned (.tuple #[.slice none 0 0, .int .i64 4]) ∧ w = w' := by
  have hl' : (1000 : Int) < l.length := by omega
  go_enter Tryz.func138, Tryz.ntmps138
  go_wp2_with fail
  go_ret2
  exact ⟨rfl, rfl⟩

theorem infoU64 : (Tryz.prog.info? 60).map (fun i => (i.zero, i.size, i.bytes)) = some (some (.int .u64 0), 1, 8) := by kernel_rfl
theorem make_words (n : Nat) (hn : n ≤ 1000000) (W : World) : (Instr.makeSlice 209 (.int .i64 (n : Int)) (.int .i64 (n : Int))).run Tryz.prog W = .ok (.slice (some ⟨W.heap.size, 0, none⟩) n n) (W.alloc (.cells ((List.replicate n 0).map fun x : Nat => Value.int .u64 x).toArray 60)) := by
  obtain ⟨i0, hi, hz0, hz1, hz2⟩ := info_parts infoU64
  have e : ((List.replicate n 0).map fun x : Nat => Value.int .u64 x).toArray = madeCells #[.int .u64 0] n := by
    apply Array.toList_inj.1
    rw [toList_madeCells_one]
    simp
  rw [e]
  exact run_make_row 209 60 i0 (.int .u64 0) Tryz.underlying209 hi hz0 hz1 rfl .i64 .i64 n (by rw [hz2]; omega) (by omega) W

theorem bytesOf_string (l : List UInt8) : ∃ (capF : World → Nat) (csF : World → Array Value) (frF : World → Nat × Nat), (∀ W, (convert 9 169 (SV l)).run Tryz.prog W = .ok (.slice (some ⟨W.heap.size, 0, none⟩) l.length (capF W)) (W.drew.alloc (.cells (csF W) 5 (frF W)))) ∧ ∀ W i, i < l.length → (csF W)[i]? = some (.int .u8 (byteAt l i : Nat)) := by
  refine ⟨_, _, _, fun W => run_bytes_of_string W _ _ _ _ Tryz.underlying9 Tryz.underlying169 Tryz.underlying5, ?_⟩
  intro W i hi
  rw [bytesRow_at _ _ _ (by simpa using hi)]
  simp [byteAt, List.getD_eq_getElem?_getD, List.getElem?_eq_getElem hi]

structure WrAt (l : List UInt8) (w : World) (k : Nat) (wr : World) : Prop where
  row : wr.heap[w.heap.size]? = some (.cells ((laid l k).map fun x : Nat => Value.int .u64 x).toArray 60 (0, 0))
  box : wr.cell? ⟨w.heap.size + 1, 0, none⟩ = some (.slice (some ⟨w.heap.size, 0, none⟩) (1 + (l.length + 7) / 8) (1 + (l.length + 7) / 8))
  bytes : ∀ i, i < l.length → wr.cell? ⟨w.heap.size + 2, i, none⟩ = some (.int .u8 (byteAt l i : Nat))
  below : Below w.heap.size w wr

set_option maxRecDepth 100000 in
set_option maxHeartbeats 1600000 in
theorem text_words (l : List UInt8) (w : World) (hl : l.length ≤ 1000) :
    Calls Tryz.prog 138 #[SV l] w fun e w' => ∃ v, e = .returned (.tuple #[v, .int .i64 0]) ∧ RowU w' w.heap.size v (wordsOf l) ∧ Below w.heap.size w w' := by
  have hl' : (l.length : Int) ≤ 1000 := by omega
  have hm := fun W => text_many l.length W (by omega)
  have hmv : many l.length = 1 + (l.length + 7) / 8 := by unfold many; rw [if_neg (by omega)]
  rw [hmv] at hm
  obtain ⟨n, hn⟩ : ∃ n, l.length = n := ⟨_, rfl⟩
  obtain ⟨m, hm'⟩ : ∃ m, 1 + (n + 7) / 8 = m := ⟨_, rfl⟩
  have hmm : m ≤ 200 := by omega
  rw [hn, hm'] at hm
  have H := Lib.hid (And.intro hm (And.intro hn hm'))
  clear hm hmv hm'
  go_enter Tryz.func138, Tryz.ntmps138
  go_wp2_with fail
  simp only [hn] at hl' ⊢
  clear hn
  refine (H.out.1 _).mono ?_
  rintro e w1 ⟨rfl, rfl⟩
  have hmk := make_words m (by omega)
  obtain ⟨cs0, hcs0⟩ : ∃ cs, ((List.replicate m 0).map fun x : Nat => Value.int .u64 x).toArray = cs := ⟨_, rfl⟩
  rw [hcs0] at hmk
  obtain ⟨capF, csF, frF, hcv, hbs⟩ := bytesOf_string l
  rw [H.out.2.1] at hcv
  have HB := Lib.hid (And.intro hcs0 hbs)
  clear hcs0 hbs
  have hm0 : (0 : Int) < m := by have := H.out.2.2; omega
  have hsz : 0 < cs0.size := by have := H.out.2.2; rw [← HB.out.1]; simp; omega
  go_wp2_with fail
  go_name_world W HW
  have hW : WrAt l w 0 W := by
    have e1 : ∀ k : Nat, W.heap[k]? = (((w.alloc (.cells (cs0.setIfInBounds 0 (.int .u64 l.length)) 60)).alloc (.cells #[.slice (some ⟨w.heap.size, 0, none⟩) m m] 209)).alloc (.cells (csF ((w.alloc (.cells (cs0.setIfInBounds 0 (.int .u64 l.length)) 60)).alloc (.cells #[.slice (some ⟨w.heap.size, 0, none⟩) m m] 209))) 5 (frF ((w.alloc (.cells (cs0.setIfInBounds 0 (.int .u64 l.length)) 60)).alloc (.cells #[.slice (some ⟨w.heap.size, 0, none⟩) m m] 209))))).heap[k]? := fun k => by rw [← HW]; rfl
    have hB : Below w.heap.size w W := by
      rw [← HW]
      have h3 := (((Below.refl _ w).alloc (Nat.le_refl _) (.cells (cs0.setIfInBounds 0 (.int .u64 l.length)) 60)).alloc (by simp) (.cells #[.slice (some ⟨w.heap.size, 0, none⟩) m m] 209)).alloc (by simp; omega) (.cells (csF ((w.alloc (.cells (cs0.setIfInBounds 0 (.int .u64 l.length)) 60)).alloc (.cells #[.slice (some ⟨w.heap.size, 0, none⟩) m m] 209))) 5 (frF ((w.alloc (.cells (cs0.setIfInBounds 0 (.int .u64 l.length)) 60)).alloc (.cells #[.slice (some ⟨w.heap.size, 0, none⟩) m m] 209))))
      exact ⟨h3.os, h3.tape, h3.output, h3.size, h3.block⟩
    have hmm2 : (l.length + 7) / 8 + 1 = m := by have := H.out.2.1; have := H.out.2.2; omega
    refine ⟨?_, ?_, ?_, hB⟩
    · rw [e1, heap_alloc_old _ _ (by simp; omega), heap_alloc_old _ _ (by simp), heap_alloc_new, laid_zero, ← HB.out.1, ← hmm2]
      simp [List.replicate_succ]
    · have : W.heap[w.heap.size + 1]? = some (.cells #[.slice (some ⟨w.heap.size, 0, none⟩) m m] 209) := by
        rw [e1, heap_alloc_old _ _ (by simp)]
        have := heap_alloc_new (w.alloc (.cells (cs0.setIfInBounds 0 (.int .u64 l.length)) 60)) (.cells #[.slice (some ⟨w.heap.size, 0, none⟩) m m] 209)
        simpa using this
      rw [cell_of_block this, show 1 + (l.length + 7) / 8 = m by omega]
      rfl
    · intro i hi
      have : W.heap[w.heap.size + 2]? = some (.cells (csF ((w.alloc (.cells (cs0.setIfInBounds 0 (.int .u64 l.length)) 60)).alloc (.cells #[.slice (some ⟨w.heap.size, 0, none⟩) m m] 209))) 5 (frF ((w.alloc (.cells (cs0.setIfInBounds 0 (.int .u64 l.length)) 60)).alloc (.cells #[.slice (some ⟨w.heap.size, 0, none⟩) m m] 209)))) := by
        rw [e1]
        have := heap_alloc_new ((w.alloc (.cells (cs0.setIfInBounds 0 (.int .u64 l.length)) 60)).alloc (.cells #[.slice (some ⟨w.heap.size, 0, none⟩) m m] 209)) (.cells (csF ((w.alloc (.cells (cs0.setIfInBounds 0 (.int .u64 l.length)) 60)).alloc (.cells #[.slice (some ⟨w.heap.size, 0, none⟩) m m] 209))) 5 (frF ((w.alloc (.cells (cs0.setIfInBounds 0 (.int .u64 l.length)) 60)).alloc (.cells #[.slice (some ⟨w.heap.size, 0, none⟩) m m] 209))))
        simpa using this
      rw [cell_of_block this]
      exact HB.out.2 _ i hi
  clear HW hmk hcv
  have HA := Lib.hid hW
  clear hW
  go_loopw [6, 7, 24] (fun _ _ i wr => ∃ k : Nat, k ≤ n ∧ i = .int .i64 k ∧ WrAt l w k wr) (fun _ _ i _ => n - (intOf i).toNat)
  case atStart => exact ⟨0, by omega, rfl, HA.out⟩
  case round =>
    obtain ⟨k, hk, rfl, hA⟩ := hrel
    have hnn := H.out.2.1
    have hmm2 := H.out.2.2
    by_cases hlt : k < n
    · have hlt' : (k : Int) < n := by omega
      have c1 := hA.bytes k (by omega)
      have hl8 := laid_at l k (by omega)
      have c2 : wr.cell? ⟨w.heap.size, 1 + k / 8, none⟩ = some (.int .u64 (cell l (k / 8) (k % 8) : Nat)) := by
        rw [cell_of_block hA.row, List.getElem?_toArray, List.getElem?_map, hl8]; rfl
      have hbox := hA.box
      rw [hnn, hmm2] at hbox
      have hlay := fun W' (h1 : W'.heap = wr.heap) => text_lay (w := W') (B := w.heap.size + 1) (G := w.heap.size) (m := m) (cap := m) (i := k) (c := byteAt l k) (x := cell l (k / 8) (k % 8)) (y := cell l (k / 8) (k % 8 + 1))
        (by rw [← hbox]; simp only [World.cell?, h1]) (by omega) hmm (by rw [← c2]; simp only [World.cell?, h1]) (by rw [frozen_of_block (h1 ▸ hA.row)]) (cell_lt _ _ _ (by omega)) (byteAt_lt _ _) (by have := cell_or l (k / 8) (k % 8) (by omega); rwa [show 8 * (k / 8) + k % 8 = k by omega] at this)
      have HK := Lib.hid (And.intro hA hlay)
      clear hA hlay hbox c2 hl8 hnn hmm2
      go_wp2_with fail
      refine (HK.out.2 _ rfl).mono ?_
      rintro e w2 ⟨rfl, q, rfl⟩
      have HN : WrAt l w (k + 1) ((wr.drewN q).setCell ⟨w.heap.size, 1 + k / 8, none⟩ (.int .u64 (cell l (k / 8) (k % 8 + 1) : Nat))) := by
        have hA := HK.out.1
        have hB : Below w.heap.size w ((wr.drewN q).setCell ⟨w.heap.size, 1 + k / 8, none⟩ (.int .u64 (cell l (k / 8) (k % 8 + 1) : Nat))) := by
          have : Below w.heap.size w (wr.drewN q) := ⟨hA.below.os, hA.below.tape, hA.below.output, hA.below.size, hA.below.block⟩
          exact this.setCell (p := ⟨w.heap.size, 1 + k / 8, none⟩) (Nat.le_refl w.heap.size) _
        refine ⟨?_, ?_, ?_, hB⟩
        · rw [heap_setCell (show (wr.drewN q).heap[w.heap.size]? = _ from hA.row), laid_succ]
          simp
        · rw [← hA.box]
          exact World.cell?_of_block (w := wr.drewN q) (heap_setCell_ne (w := wr.drewN q) (k := w.heap.size + 1) (by omega))
        · intro i hi
          rw [← hA.bytes i hi]
          exact World.cell?_of_block (w := wr.drewN q) (heap_setCell_ne (w := wr.drewN q) (k := w.heap.size + 2) (by omega))
      have HN' := Lib.hid HN
      clear HN
      go_wp2_with fail
      go_roundw
      case rel => exact ⟨k + 1, by omega, by simp, HN'.out⟩
      case measure => simp [intOf]; omega
    · obtain rfl : k = n := by omega
      have hbox := hA.box
      rw [hnn, hmm2] at hbox
      have HK := Lib.hid (And.intro hA (And.intro hmm2 hnn))
      clear hA hmm2 hnn
      go_wp2_with fail
      go_ret2
      refine ⟨_, rfl, ⟨w.heap.size, m, ?_, Nat.le_refl _, ?_⟩, HK.out.1.below⟩
      · rw [wordsOf_length, HK.out.2.2, HK.out.2.1]
        rfl
      · intro i hi
        have h := HK.out.1.row
        rw [← HK.out.2.2, laid_full] at h
        rw [cell_of_block h, List.getElem?_toArray, List.getElem?_map, List.getElem?_eq_getElem hi]
        rfl
end Go.Proofs.YtoaabbnieakidaaGreatDoorR
