/- Texts as words: what is laid byte by byte, and what is read again: plain. Texts: Many, the closure that lays a byte, slices.Equal at words: the walks. Texts: Words: the walk. Blobs: Put: the walk. Blobs: the words of a record, told one by one: the iterator's contract. -/
import Derived.Test.YtepdkbmnkjfcpaaGreatDoorVah
import Derived.Test.YtepdkbmnkjfcpaaGreatDoorVaa
import Derived.Test.YtepdkbmnkjfcpaaGreatDoorVad
import Derived.Test.YtepdkbmnkjfcpaaGreatDoorVac
import Derived.Lib.ItoaWalk
import Derived.Deep.OwnRows
import Derived.Laws.IdiomStrings
import Derived.Test.YtepdkbmnkjfcpaaGreatDoorVaj
set_option maxRecDepth 100000
set_option maxHeartbeats 1600000
namespace Go.Proofs.YtepdkbmnkjfcpaaGreatDoor.Lf
def byteAt (l : List UInt8) (i : Nat) : Nat := (l.getD i 0).toNat
theorem byteAt_lt (l : List UInt8) (i : Nat) : byteAt l i < 256 := (l.getD i 0).toNat_lt
def part (l : List UInt8) (j : Nat) : Nat → Nat
  | 0 => 0
  | r + 1 => part l j r * 256 + byteAt l (8 * j + r)
theorem part_lt (l : List UInt8) (j : Nat) : ∀ r, part l j r < 256 ^ r
  | 0 => by simp [part]
  | r + 1 => by
    have := part_lt l j r
    have := byteAt_lt l (8 * j + r)
    simp only [part, Nat.pow_succ]
    omega
theorem chunk_eq (l : List UInt8) (j : Nat) : chunk (l.drop (8 * j)) = part l j 8 := by
  have h : ∀ q, (l.drop (8 * j)).getD q 0 = l.getD (8 * j + q) 0 := fun q => by
    simp [List.getD_eq_getElem?_getD, List.getElem?_drop]
  simp only [chunk, show List.range 8 = [0, 1, 2, 3, 4, 5, 6, 7] from rfl, List.foldl_cons, List.foldl_nil, h]
  simp [part, byteAt]
def cell (l : List UInt8) (j r : Nat) : Nat := part l j r * 256 ^ (8 - r)
theorem cell_lt (l : List UInt8) (j r : Nat) (h : r ≤ 8) : cell l j r < 18446744073709551616 := by
  have h1 := part_lt l j r
  have h2 : 256 ^ r * 256 ^ (8 - r) = 18446744073709551616 := by rw [← Nat.pow_add, show r + (8 - r) = 8 by omega]
  have h3 : 0 < 256 ^ (8 - r) := Nat.pow_pos (by decide)
  unfold cell
  rw [← h2]
  exact Nat.mul_lt_mul_of_pos_right h1 h3
theorem cell_succ (l : List UInt8) (j r : Nat) (h : r < 8) : cell l j (r + 1) = cell l j r + byteAt l (8 * j + r) * 2 ^ (8 * (7 - r)) := by
  have e : 256 ^ (8 - r) = 256 * 256 ^ (7 - r) := by rw [show 8 - r = (7 - r) + 1 by omega, Nat.pow_succ, Nat.mul_comm]
  have e2 : 2 ^ (8 * (7 - r)) = 256 ^ (7 - r) := by rw [Nat.pow_mul]
  unfold cell
  rw [e, e2, show 8 - (r + 1) = 7 - r by omega]
  simp only [part, Nat.add_mul, Nat.mul_assoc]
theorem cell_or (l : List UInt8) (j r : Nat) (h : r < 8) : cell l j r ||| byteAt l (8 * j + r) * 2 ^ (8 * (7 - r)) = cell l j (r + 1) := by
  have e : cell l j r = part l j r <<< (8 * (8 - r)) := by
    rw [Nat.shiftLeft_eq, Nat.pow_mul]; rfl
  have h1 : byteAt l (8 * j + r) * 2 ^ (8 * (7 - r)) < 2 ^ (8 * (8 - r)) := by
    rw [show 8 * (8 - r) = 8 + 8 * (7 - r) by omega, Nat.pow_add]
    exact Nat.mul_lt_mul_of_pos_right (byteAt_lt _ _) (Nat.pow_pos (by decide))
  rw [cell_succ l j r h, e]
  exact (Nat.shiftLeft_add_eq_or_of_lt h1 _).symm
theorem cell_zero (l : List UInt8) (j : Nat) : cell l j 0 = 0 := by simp [cell, part]
theorem byteAt_ge (l : List UInt8) (i : Nat) (h : l.length ≤ i) : byteAt l i = 0 := by
  simp [byteAt, List.getD_eq_getElem?_getD, List.getElem?_eq_none h]
theorem cell_full (l : List UInt8) (j r : Nat) (h : l.length ≤ 8 * j + r) : ∀ d, r + d ≤ 8 → cell l j (r + d) = cell l j r
  | 0, _ => rfl
  | d + 1, hd => by
    have := cell_succ l j (r + d) (by omega)
    rw [byteAt_ge l _ (by omega), Nat.zero_mul, Nat.add_zero] at this
    rw [← Nat.add_assoc, this]
    exact cell_full l j r h d (by omega)
theorem cell_8 (l : List UInt8) (j : Nat) : cell l j 8 = chunk (l.drop (8 * j)) := by rw [chunk_eq]; simp [cell]
def laid (l : List UInt8) (i : Nat) : List Nat := l.length :: (List.range ((l.length + 7) / 8)).map fun j => cell l j (min 8 (i - 8 * j))
theorem laid_length (l : List UInt8) (i : Nat) : (laid l i).length = 1 + (l.length + 7) / 8 := by simp [laid]; omega
theorem laid_zero (l : List UInt8) : laid l 0 = l.length :: List.replicate ((l.length + 7) / 8) 0 := by
  unfold laid
  congr 1
  apply List.ext_getElem (by simp)
  intro n h1 h2
  simp [cell_zero]
theorem laid_full (l : List UInt8) : laid l l.length = wordsOf l := by
  unfold laid wordsOf chunks
  congr 1
  apply List.map_congr_left
  intro j hj
  rw [← cell_8]
  by_cases h : 8 * j + 8 ≤ l.length
  · rw [Nat.min_eq_left (by omega)]
  · rw [Nat.min_eq_right (by omega)]
    have := cell_full l j (l.length - 8 * j) (by omega) (8 - (l.length - 8 * j)) (by omega)
    rw [← this]
    congr 1
    omega
theorem laid_at (l : List UInt8) (i : Nat) (h : i < l.length) : (laid l i)[1 + i / 8]? = some (cell l (i / 8) (i % 8)) := by
  unfold laid
  rw [Nat.add_comm 1, List.getElem?_cons_succ, List.getElem?_map, List.getElem?_range (by omega)]
  simp only [Option.map_some, Option.some.injEq]
  congr 1
  omega
theorem laid_succ (l : List UInt8) (i : Nat) : laid l (i + 1) = (laid l i).set (1 + i / 8) (cell l (i / 8) (i % 8 + 1)) := by
  unfold laid
  rw [Nat.add_comm 1, List.set_cons_succ]
  congr 1
  apply List.ext_getElem (by simp)
  intro n h1 h2
  rw [List.getElem_set]
  simp only [List.getElem_map, List.getElem_range]
  by_cases e : i / 8 = n
  · rw [if_pos e]
    subst e
    congr 1
    omega
  · rw [if_neg e]
    congr 1
    omega
theorem laid_lt (l : List UInt8) (i : Nat) (hl : l.length < 18446744073709551616) : ∀ x ∈ laid l i, x < 18446744073709551616 := by
  intro x hx
  unfold laid at hx
  rcases List.mem_cons.1 hx with rfl | hx
  · exact hl
  · obtain ⟨j, _, rfl⟩ := List.mem_map.1 hx
    exact cell_lt _ _ _ (Nat.min_le_left _ _)
theorem wordsOf_length (l : List UInt8) : (wordsOf l).length = 1 + (l.length + 7) / 8 := by rw [← laid_full, laid_length]
theorem wordsOf_many (l : List UInt8) (h : l.length ≤ 1000) : (wordsOf l).length = many l.length := by
  rw [wordsOf_length]
  unfold many
  rw [if_neg (by omega)]
theorem wordsOf_lt (l : List UInt8) (hl : l.length < 18446744073709551616) : ∀ x ∈ wordsOf l, x < 18446744073709551616 := by rw [← laid_full]; exact laid_lt l _ hl
theorem wordsOf_at (l : List UInt8) (i : Nat) (h : i < l.length) : (wordsOf l)[1 + i / 8]? = some (cell l (i / 8) 8) := by
  unfold wordsOf chunks
  rw [Nat.add_comm 1, List.getElem?_cons_succ, List.getElem?_map, List.getElem?_range (by omega)]
  simp only [Option.map_some, Option.some.injEq]
  exact (cell_8 _ _).symm
theorem cell_byte (l : List UInt8) (j : Nat) : ∀ d r, r + d = 7 → cell l j 8 / 2 ^ (8 * d) % 256 = byteAt l (8 * j + r) := by
  intro d r hr
  have key : ∀ k, k ≤ 8 - (r + 1) → part l j (r + 1 + k) / 256 ^ k = part l j (r + 1) := by
    intro k
    induction k with
    | zero => intro _; simp
    | succ k ih =>
      intro hk
      rw [show r + 1 + (k + 1) = (r + 1 + k) + 1 by omega]
      simp only [part]
      rw [Nat.pow_succ, Nat.mul_comm (256 ^ k), ← Nat.div_div_eq_div_mul]
      have hb := byteAt_lt l (8 * j + (r + 1 + k))
      rw [show (part l j (r + 1 + k) * 256 + byteAt l (8 * j + (r + 1 + k))) / 256 = part l j (r + 1 + k) by omega]
      exact ih (by omega)
  have h1 := key d (by omega)
  have e : cell l j 8 = part l j 8 := by simp [cell]
  have e8 : part l j 8 = part l j (r + 1 + d) := by rw [show r + 1 + d = 8 by omega]
  rw [e, Nat.pow_mul, show (2 : Nat) ^ 8 = 256 from rfl, e8, h1]
  simp only [part]
  have hb := byteAt_lt l (8 * j + r)
  omega
theorem bytesOf_wordsOf (l : List UInt8) : bytesOf (wordsOf l) l.length = l := by
  unfold bytesOf
  apply List.ext_getElem (by simp)
  intro i h1 h2
  simp only [List.getElem_map, List.getElem_range]
  rw [List.getD_eq_getElem?_getD, wordsOf_at l i h2]
  simp only [Option.getD_some]
  have h := cell_byte l (i / 8) (7 - i % 8) (i % 8) (by omega)
  rw [show 8 * (i / 8) + i % 8 = i by omega, Nat.pow_mul, show (2 : Nat) ^ 8 = 256 from rfl] at h
  apply UInt8.toNat_inj.1
  rw [UInt8.toNat_ofNat']
  rw [show (2 : Nat) ^ 8 = 256 from rfl, h]
  simp [byteAt, List.getD_eq_getElem?_getD, List.getElem?_eq_getElem h2]
theorem textOf_wordsOf (l : List UInt8) (h : l.length ≤ 1000) : textOf (wordsOf l) = some l := by
  have h1 := wordsOf_many l h
  have h2 := bytesOf_wordsOf l
  have e : ∃ r, wordsOf l = l.length :: r := ⟨_, rfl⟩
  obtain ⟨r, e⟩ := e
  rw [e] at h1 h2 ⊢
  unfold textOf
  simp only
  rw [if_neg (by omega), h2, ← e, if_pos rfl]
theorem textOf_some {ws : List Nat} {l : List UInt8} (h : textOf ws = some l) : l.length ≤ 1000 ∧ ws = wordsOf l := by
  unfold textOf at h
  split at h
  · cases h
  · rename_i n r
    split at h
    · cases h
    · rename_i hn
      split at h
      · rename_i hw
        injection h with h
        have hl : l.length = n := by rw [← h]; simp [bytesOf]
        rw [h] at hw
        exact ⟨by omega, hw.symm⟩
      · cases h
end Go.Proofs.YtepdkbmnkjfcpaaGreatDoor.Lf
namespace Go.Proofs.YtepdkbmnkjfcpaaGreatDoor
open Go.RowKit Go.BigFrame Go.Maps Go.WideMaps Lf
theorem text_many (n : Nat) (w : World) (hn : n ≤ 1099511627776) :
    Calls Tryz.prog 94 #[.int .i64 n] w fun e w' => e = .returned (.int .i64 (many n : Nat)) ∧ w = w' := by
  unfold many
  by_cases h : 1000 < n
  · rw [if_pos h]
    have h' : (1000 : Int) < n := by omega
    go_enter Tryz.func94, Tryz.ntmps94
    go_wp2
    go_ret
    exact ⟨rfl, rfl⟩
  · rw [if_neg h]
    have h' : (n : Int) ≤ 1000 := by omega
    have hq : ((1 + (n + 7) / 8 : Nat) : Int) = 1 + ((n : Int) + 7) / 8 := by omega
    rw [hq]
    clear h hq
    go_enter Tryz.func94, Tryz.ntmps94
    go_wp2
    go_ret
    exact ⟨by simp; omega, rfl⟩
theorem text_lay {w : World} {B G m cap i c x y : Nat} (hb : w.cell? ⟨B, 0, none⟩ = some (.slice (some ⟨G, 0, none⟩) m cap)) (hi : 1 + i / 8 < m) (hm : m ≤ 200)
    (hx : w.cell? ⟨G, 1 + i / 8, none⟩ = some (.int .u64 x)) (hf : w.frozen? ⟨G, 1 + i / 8, none⟩ = false) (hxl : x < 18446744073709551616) (hc : c < 256) (hy : x ||| c * 2 ^ (8 * (7 - i % 8)) = y) :
    Calls Tryz.prog 166 #[.int .i64 i, .int .u8 c, PV B] w fun e w' => e = .returned (.tuple #[]) ∧ ∃ q, w' = (w.drewN q).setCell ⟨G, 1 + i / 8, none⟩ (.int .u64 y) := by
  obtain ⟨q, hq⟩ : ∃ q, i / 8 = q := ⟨_, rfl⟩
  obtain ⟨r, hr⟩ : ∃ r, i % 8 = r := ⟨_, rfl⟩
  have hr8 : r < 8 := by omega
  obtain ⟨s, hs⟩ : ∃ s, 8 * (7 - r) = s := ⟨_, rfl⟩
  rw [hq] at hi hx hf ⊢
  rw [hr, hs] at hy
  have hq' : (i : Int) / 8 = (q : Int) := by omega
  have hr' : (i : Int) % 8 = (r : Int) := by omega
  have hs' : 8 * (7 - (r : Int)) = (s : Int) := by omega
  have hi9 : i < 9223372036854775807 := by omega
  go_enter Tryz.func166, Tryz.ntmps166
  go_wp2_with fail
  refine wp_region_quiet_tail (C := fun w' => ∃ q : Nat, w' = (w).drewN q) 15 (by kernel_rfl) (by kernel_rfl) ⟨1, rfl⟩ ?_
  simp only [List.take_succ_cons, List.take_zero, List.drop_succ_cons, List.drop_zero]
  repeat (first | go_big_quiet_skip | (go_big_quiet_want; go_big_quiet_op; first | go_big_quiet_on))
  refine wpQuiet_nil ?_
  rintro _ ⟨q, rfl⟩
  go_wp2_with fail
  have hw : IntKind.u64.wrap ((c : Int) * 2 ^ s) = ((c * 2 ^ s : Nat) : Int) := by
    have h1 : c * 2 ^ s < 256 * 2 ^ 56 := Nat.lt_of_lt_of_le (Nat.mul_lt_mul_of_pos_right hc (Nat.pow_pos (by decide))) (Nat.mul_le_mul_left _ (Nat.pow_le_pow_right (by decide) (by omega)))
    have h2 : ((c : Int) * 2 ^ s) = ((c * 2 ^ s : Nat) : Int) := by push_cast; rfl
    rw [h2]
    show ((c * 2 ^ s : Nat) : Int) % 18446744073709551616 = _
    omega
  have h1 : c * 2 ^ s < 18446744073709551616 := Nat.lt_of_lt_of_le (Nat.mul_lt_mul_of_pos_right hc (Nat.pow_pos (by decide))) (Nat.mul_le_mul_left 256 (Nat.pow_le_pow_right (n := 2) (by decide) (show s ≤ 56 by omega)))
  rw [hw, bits_or_u64_nat _ _ hxl h1, hy]
  go_end0
  exact ⟨rfl, _, rfl⟩
def RowU (w : World) (B : Nat) (v : Value) (ws : List Nat) : Prop := ∃ G c, v = .slice (some ⟨G, 0, none⟩) ws.length c ∧ B ≤ G ∧ ∀ (i : Nat) (h : i < ws.length), w.cell? ⟨G, i, none⟩ = some (.int .u64 (ws[i] : Nat))
theorem RowU.below {w w' : World} {B : Nat} {v : Value} {ws : List Nat} (h : RowU w B v ws) (hb : Below w.heap.size w w') : RowU w' B v ws := by
  obtain ⟨G, c, rfl, hB, hc⟩ := h
  refine ⟨G, c, rfl, hB, fun i hi => ?_⟩
  have h1 := hc i hi
  have hlt : G < w.heap.size := by
    unfold World.cell? at h1
    split at h1
    · rename_i heq; exact (Array.getElem?_eq_some_iff.1 heq).1
    · cases h1
  exact (hb.cell (p := ⟨G, i, none⟩) hlt).trans h1
theorem words_equal {w : World} {B B' : Nat} {v v' : Value} {ws : List Nat} (h : RowU w B v ws) (h' : RowU w B' v' ws) (hl : ws.length ≤ 100000) :
    Calls Tryz.prog 138 #[v, v'] w fun e w' => e = .returned (.bool true) ∧ ∃ q, w' = w.drewN q := by
  obtain ⟨G, c, rfl, _, hc⟩ := h
  obtain ⟨G', c', rfl, _, hc'⟩ := h'
  obtain ⟨n, hn⟩ : ∃ n, ws.length = n := ⟨_, rfl⟩
  rw [hn] at hl
  have H := Lib.hid (And.intro hc (And.intro hc' hn))
  rw [hn]
  clear hc hc' hn
  go_enter Tryz.func138, Tryz.ntmps138
  go_wp2_with fail
  go_loopw [13] (fun i wr => ∃ k : Nat, k ≤ n ∧ i = .int .i64 k ∧ ∃ q, wr = w.drewN q) (fun i _ => n - (intOf i).toNat)
  case atStart => exact ⟨0, by omega, rfl, 0, rfl⟩
  case round =>
    obtain ⟨k, hk, rfl, q, rfl⟩ := hrel
    by_cases hlt : k < n
    · have hlt' : (k : Int) < n := by omega
      have c1 := H.out.1 k (by rw [H.out.2.2]; exact hlt)
      have c2 := H.out.2.1 k (by rw [H.out.2.2]; exact hlt)
      generalize ws[k]'(by rw [H.out.2.2]; exact hlt) = x at c1 c2
      go_wp2_with fail
      go_quiet (fail)
      go_wp2_with fail
      go_roundw
      case rel => exact ⟨k + 1, by omega, by simp, _, rfl⟩
      case measure => simp [intOf]; omega
    · obtain rfl : k = n := by omega
      go_wp2_with fail
      go_ret
      exact ⟨rfl, _, rfl⟩
end Go.Proofs.YtepdkbmnkjfcpaaGreatDoor
namespace Go.Proofs.YtepdkbmnkjfcpaaGreatDoor
open Go.RowKit Go.BigFrame Go.Maps Go.WideMaps Lf
abbrev SV (l : List UInt8) : Value := .string ⟨l.toArray⟩
theorem infoU64 : (Tryz.prog.info? 42).map (fun i => (i.zero, i.size, i.bytes)) = some (some (.int .u64 0), 1, 8) := by kernel_rfl
theorem make_words (n : Nat) (hn : n ≤ 1000000) (W : World) : (Instr.makeSlice 163 (.int .i64 (n : Int)) (.int .i64 (n : Int))).run Tryz.prog W = .ok (.slice (some ⟨W.heap.size, 0, none⟩) n n) (W.alloc (.cells ((List.replicate n 0).map fun x : Nat => Value.int .u64 x).toArray 42)) := by
  obtain ⟨i0, hi, hz0, hz1, hz2⟩ := info_parts infoU64
  have e : ((List.replicate n 0).map fun x : Nat => Value.int .u64 x).toArray = madeCells #[.int .u64 0] n := by
    apply Array.toList_inj.1
    rw [toList_madeCells_one]
    simp
  rw [e]
  exact run_make_row 163 42 i0 (.int .u64 0) Tryz.underlying163 hi hz0 hz1 rfl .i64 .i64 n (by rw [hz2]; omega) (by omega) W
theorem bytesOf_string (l : List UInt8) : ∃ (capF : World → Nat) (csF : World → Array Value) (frF : World → Nat × Nat), (∀ W, (convert 9 209 (SV l)).run Tryz.prog W = .ok (.slice (some ⟨W.heap.size, 0, none⟩) l.length (capF W)) (W.drew.alloc (.cells (csF W) 5 (frF W)))) ∧ ∀ W i, i < l.length → (csF W)[i]? = some (.int .u8 (byteAt l i : Nat)) := by
  refine ⟨_, _, _, fun W => run_bytes_of_string W _ _ _ _ Tryz.underlying9 Tryz.underlying209 Tryz.underlying5, ?_⟩
  intro W i hi
  rw [bytesRow_at _ _ _ (by simpa using hi)]
  simp [byteAt, List.getD_eq_getElem?_getD, List.getElem?_eq_getElem hi]
structure WrAt (l : List UInt8) (w : World) (k : Nat) (wr : World) : Prop where
  row : wr.heap[w.heap.size]? = some (.cells ((laid l k).map fun x : Nat => Value.int .u64 x).toArray 42 (0, 0))
  box : wr.cell? ⟨w.heap.size + 1, 0, none⟩ = some (.slice (some ⟨w.heap.size, 0, none⟩) (1 + (l.length + 7) / 8) (1 + (l.length + 7) / 8))
  bytes : ∀ i, i < l.length → wr.cell? ⟨w.heap.size + 2, i, none⟩ = some (.int .u8 (byteAt l i : Nat))
  below : Below w.heap.size w wr
theorem text_words (l : List UInt8) (w : World) (hl : l.length ≤ 1000) :
    Calls Tryz.prog 120 #[SV l] w fun e w' => ∃ v, e = .returned (.tuple #[v, .int .i64 0]) ∧ RowU w' w.heap.size v (wordsOf l) ∧ Below w.heap.size w w' := by
  have hl' : (l.length : Int) ≤ 1000 := by omega
  have hm := fun W => text_many l.length W (by omega)
  have hmv : many l.length = 1 + (l.length + 7) / 8 := by unfold many; rw [if_neg (by omega)]
  rw [hmv] at hm
  obtain ⟨n, hn⟩ : ∃ n, l.length = n := ⟨_, rfl⟩
  obtain ⟨m, hm'⟩ : ∃ m, 1 + (n + 7) / 8 = m := ⟨_, rfl⟩
  have hmm : m ≤ 200 := by omega
  rw [hn, hm'] at hm
  have H := Lib.hid (And.intro hm (And.intro hn hm'))
  clear hm hmv hm'
  go_enter Tryz.func120, Tryz.ntmps120
  go_wp2_with fail
  simp only [hn] at hl' ⊢
  clear hn
  refine (H.out.1 _).mono ?_
  rintro e w1 ⟨rfl, rfl⟩
  have hmk := make_words m (by omega)
  obtain ⟨cs0, hcs0⟩ : ∃ cs, ((List.replicate m 0).map fun x : Nat => Value.int .u64 x).toArray = cs := ⟨_, rfl⟩
  rw [hcs0] at hmk
  obtain ⟨capF, csF, frF, hcv, hbs⟩ := bytesOf_string l
  rw [H.out.2.1] at hcv
  have HB := Lib.hid (And.intro hcs0 hbs)
  clear hcs0 hbs
  have hm0 : (0 : Int) < m := by have := H.out.2.2; omega
  have hsz : 0 < cs0.size := by have := H.out.2.2; rw [← HB.out.1]; simp; omega
  go_wp2_with fail
  go_name_world W HW
  have hW : WrAt l w 0 W := by
    have e1 : ∀ k : Nat, W.heap[k]? = (((w.alloc (.cells (cs0.setIfInBounds 0 (.int .u64 l.length)) 42)).alloc (.cells #[.slice (some ⟨w.heap.size, 0, none⟩) m m] 163)).alloc (.cells (csF ((w.alloc (.cells (cs0.setIfInBounds 0 (.int .u64 l.length)) 42)).alloc (.cells #[.slice (some ⟨w.heap.size, 0, none⟩) m m] 163))) 5 (frF ((w.alloc (.cells (cs0.setIfInBounds 0 (.int .u64 l.length)) 42)).alloc (.cells #[.slice (some ⟨w.heap.size, 0, none⟩) m m] 163))))).heap[k]? := fun k => by rw [← HW]; rfl
    have hB : Below w.heap.size w W := by
      rw [← HW]
      have h3 := (((Below.refl _ w).alloc (Nat.le_refl _) (.cells (cs0.setIfInBounds 0 (.int .u64 l.length)) 42)).alloc (by simp) (.cells #[.slice (some ⟨w.heap.size, 0, none⟩) m m] 163)).alloc (by simp; omega) (.cells (csF ((w.alloc (.cells (cs0.setIfInBounds 0 (.int .u64 l.length)) 42)).alloc (.cells #[.slice (some ⟨w.heap.size, 0, none⟩) m m] 163))) 5 (frF ((w.alloc (.cells (cs0.setIfInBounds 0 (.int .u64 l.length)) 42)).alloc (.cells #[.slice (some ⟨w.heap.size, 0, none⟩) m m] 163))))
      exact ⟨h3.os, h3.tape, h3.output, h3.size, h3.block⟩
    have hmm2 : (l.length + 7) / 8 + 1 = m := by have := H.out.2.1; have := H.out.2.2; omega
    refine ⟨?_, ?_, ?_, hB⟩
    · rw [e1, heap_alloc_old _ _ (by simp; omega), heap_alloc_old _ _ (by simp), heap_alloc_new, laid_zero, ← HB.out.1, ← hmm2]
      simp [List.replicate_succ]
    · have : W.heap[w.heap.size + 1]? = some (.cells #[.slice (some ⟨w.heap.size, 0, none⟩) m m] 163) := by
        rw [e1, heap_alloc_old _ _ (by simp)]
        have := heap_alloc_new (w.alloc (.cells (cs0.setIfInBounds 0 (.int .u64 l.length)) 42)) (.cells #[.slice (some ⟨w.heap.size, 0, none⟩) m m] 163)
        simpa using this
      rw [cell_of_block this, show 1 + (l.length + 7) / 8 = m by omega]
      rfl
    · intro i hi
      have : W.heap[w.heap.size + 2]? = some (.cells (csF ((w.alloc (.cells (cs0.setIfInBounds 0 (.int .u64 l.length)) 42)).alloc (.cells #[.slice (some ⟨w.heap.size, 0, none⟩) m m] 163))) 5 (frF ((w.alloc (.cells (cs0.setIfInBounds 0 (.int .u64 l.length)) 42)).alloc (.cells #[.slice (some ⟨w.heap.size, 0, none⟩) m m] 163)))) := by
        rw [e1]
        have := heap_alloc_new ((w.alloc (.cells (cs0.setIfInBounds 0 (.int .u64 l.length)) 42)).alloc (.cells #[.slice (some ⟨w.heap.size, 0, none⟩) m m] 163)) (.cells (csF ((w.alloc (.cells (cs0.setIfInBounds 0 (.int .u64 l.length)) 42)).alloc (.cells #[.slice (some ⟨w.heap.size, 0, none⟩) m m] 163))) 5 (frF ((w.alloc (.cells (cs0.setIfInBounds 0 (.int .u64 l.length)) 42)).alloc (.cells #[.slice (some ⟨w.heap.size, 0, none⟩) m m] 163))))
        simpa using this
      rw [cell_of_block this]
      exact HB.out.2 _ i hi
  clear HW hmk hcv
  have HA := Lib.hid hW
  clear hW
  go_loopw [6, 7, 24] (fun _ _ i wr => ∃ k : Nat, k ≤ n ∧ i = .int .i64 k ∧ WrAt l w k wr) (fun _ _ i _ => n - (intOf i).toNat)
  case atStart => exact ⟨0, by omega, rfl, HA.out⟩
  case round =>
    obtain ⟨k, hk, rfl, hA⟩ := hrel
    have hnn := H.out.2.1
    have hmm2 := H.out.2.2
    by_cases hlt : k < n
    · have hlt' : (k : Int) < n := by omega
      have c1 := hA.bytes k (by omega)
      have hl8 := laid_at l k (by omega)
      have c2 : wr.cell? ⟨w.heap.size, 1 + k / 8, none⟩ = some (.int .u64 (cell l (k / 8) (k % 8) : Nat)) := by
        rw [cell_of_block hA.row, List.getElem?_toArray, List.getElem?_map, hl8]; rfl
      have hbox := hA.box
      rw [hnn, hmm2] at hbox
      have hlay := fun W' (h1 : W'.heap = wr.heap) => text_lay (w := W') (B := w.heap.size + 1) (G := w.heap.size) (m := m) (cap := m) (i := k) (c := byteAt l k) (x := cell l (k / 8) (k % 8)) (y := cell l (k / 8) (k % 8 + 1))
        (by rw [← hbox]; simp only [World.cell?, h1]) (by omega) hmm (by rw [← c2]; simp only [World.cell?, h1]) (by rw [frozen_of_block (h1 ▸ hA.row)]) (cell_lt _ _ _ (by omega)) (byteAt_lt _ _) (by have := cell_or l (k / 8) (k % 8) (by omega); rwa [show 8 * (k / 8) + k % 8 = k by omega] at this)
      have HK := Lib.hid (And.intro hA hlay)
      clear hA hlay hbox c2 hl8 hnn hmm2
      go_wp2_with fail
      refine (HK.out.2 _ rfl).mono ?_
      rintro e w2 ⟨rfl, q, rfl⟩
      have HN : WrAt l w (k + 1) ((wr.drewN q).setCell ⟨w.heap.size, 1 + k / 8, none⟩ (.int .u64 (cell l (k / 8) (k % 8 + 1) : Nat))) := by
        have hA := HK.out.1
        have hB : Below w.heap.size w ((wr.drewN q).setCell ⟨w.heap.size, 1 + k / 8, none⟩ (.int .u64 (cell l (k / 8) (k % 8 + 1) : Nat))) := by
          have : Below w.heap.size w (wr.drewN q) := ⟨hA.below.os, hA.below.tape, hA.below.output, hA.below.size, hA.below.block⟩
          exact this.setCell (p := ⟨w.heap.size, 1 + k / 8, none⟩) (Nat.le_refl w.heap.size) _
        refine ⟨?_, ?_, ?_, hB⟩
        · rw [heap_setCell (show (wr.drewN q).heap[w.heap.size]? = _ from hA.row), laid_succ]
          simp
        · rw [← hA.box]
          exact World.cell?_of_block (w := wr.drewN q) (heap_setCell_ne (w := wr.drewN q) (k := w.heap.size + 1) (by omega))
        · intro i hi
          rw [← hA.bytes i hi]
          exact World.cell?_of_block (w := wr.drewN q) (heap_setCell_ne (w := wr.drewN q) (k := w.heap.size + 2) (by omega))
      have HN' := Lib.hid HN
      clear HN
      go_wp2_with fail
      go_roundw
      case rel => exact ⟨k + 1, by omega, by simp, HN'.out⟩
      case measure => simp [intOf]; omega
    · obtain rfl : k = n := by omega
      have hbox := hA.box
      rw [hnn, hmm2] at hbox
      have HK := Lib.hid (And.intro hA (And.intro hmm2 hnn))
      clear hA hmm2 hnn
      go_wp2_with fail
      go_ret2
      refine ⟨_, rfl, ⟨w.heap.size, m, ?_, Nat.le_refl _, ?_⟩, HK.out.1.below⟩
      · rw [wordsOf_length, HK.out.2.2, HK.out.2.1]
        rfl
      · intro i hi
        have h := HK.out.1.row
        rw [← HK.out.2.2, laid_full] at h
        rw [cell_of_block h, List.getElem?_toArray, List.getElem?_map, List.getElem?_eq_getElem hi]
        rfl
end Go.Proofs.YtepdkbmnkjfcpaaGreatDoor
namespace Go.Proofs.YtepdkbmnkjfcpaaGreatDoor
open Go.RowKit Go.BigFrame Go.Maps Go.WideMaps Lf
def MkOk (S : St) (n : Nat) : Prop := (S.t.open (allocH S.a (n + 2)).1.1).1.2 = 0 ∧ Inv (S.make n).2
theorem make_lt {S : St} (hw : TabWF S.t) (n : Nat) : (S.make n).1.1 < 18446744073709551616 := by
  have h := open_lt hw
  unfold St.make
  split
  · simp
  · split
    · rename_i addr a1 _
      have := h addr
      split
      · rename_i hh t1 he
        rw [he] at this
        exact this
      · simp
    · simp
theorem StOn.tabwf {w : World} {ps : Nat} {S : St} {Y : Nat → Prop} (h : StOn w ps S Y) : TabWF S.t := by
  obtain ⟨_, _, _, _, _, h⟩ := h
  exact h.tab.wf
theorem RowU.keep {w w' : World} {B : Nat} {v : Value} {ws : List Nat} {Y : Nat → Prop} (h : RowU w B v ws) (hk : Keep Y w w') (hy : ∀ k, B ≤ k → k < w.heap.size → Y k) : RowU w' B v ws := by
  obtain ⟨G, c, rfl, hB, hc⟩ := h
  refine ⟨G, c, rfl, hB, fun i hi => ?_⟩
  have h1 := hc i hi
  have hlt : G < w.heap.size := by
    unfold World.cell? at h1
    split at h1
    · rename_i heq; exact (Array.getElem?_eq_some_iff.1 heq).1
    · cases h1
  exact (World.cell?_of_block (hk.block G (hy G hB hlt))).trans h1
theorem blob_put {w : World} {ps : Nat} {S : St} {Y : Nat → Prop} (h : StOn w ps S Y) (hi : Inv S) (l : List UInt8) (hl : l.length ≤ 1000) (hm : MkOk S (many l.length)) :
    Calls Tryz.prog 102 #[PV ps, SV l] w fun e w' => e = .returned (.tuple #[.int .u64 ((putBlob S l).1.1 : Nat), .int .i64 ((putBlob S l).1.2 : Nat)]) ∧ StOn w' ps (putBlob S l).2 Y ∧ Keep Y w w' := by
  have hle := st_len h hi 0 (by omega)
  rw [len_zero] at hle
  have hwo := fun W => text_words l W hl
  have hlen := wordsOf_many l hl
  have hwl := wordsOf_lt l (by omega)
  obtain ⟨R, hR⟩ : ∃ R, putBlob S l = R := ⟨_, rfl⟩
  rw [hR]
  unfold putBlob at hR
  rw [if_neg (by omega)] at hR
  obtain ⟨hm1, hm2⟩ := hm
  have hmk := fun W (hW : StOn W ps S (fun k => Y k ∨ (w.heap.size ≤ k ∧ k < W.heap.size))) => st_make hW (many l.length) (by unfold many; split <;> omega) hm1
  have hmlt := make_lt h.tabwf (many l.length)
  have hml : many l.length ≤ 200 := by unfold many; split <;> omega
  obtain ⟨⟨⟨hh, er⟩, S1⟩, hS⟩ : ∃ r, S.make (many l.length) = r := ⟨_, rfl⟩
  rw [hS] at hmk hmlt hm2 hR
  simp only at hmk hmlt hm2 hR
  rw [← hlen] at hmk hml
  obtain ⟨ws, hws⟩ : ∃ ws, wordsOf l = ws := ⟨_, rfl⟩
  rw [hws] at hwo hmk hml hwl hR
  have HG := Lib.hid (And.intro hle (And.intro hwo (And.intro hmk (And.intro hR (And.intro h (And.intro hwl hm2))))))
  clear hle hwo hmk hR h hwl hm2 hm1 hS hlen hws hi
  obtain ⟨n, hn⟩ : ∃ n, ws.length = n := ⟨_, rfl⟩
  have HN := Lib.hid hn
  rw [hn] at hml
  clear hn
  go_enter Tryz.func102, Tryz.ntmps102
  go_wp2_with fail
  refine HG.out.1.mono ?_
  rintro e w1 ⟨rfl, rfl⟩
  go_wp2_with fail
  refine (HG.out.2.1 _).mono ?_
  rintro e w2 ⟨v, rfl, hrow, hb⟩
  have hS2 := HG.out.2.2.2.2.1.wide hb
  have H2 := Lib.hid (And.intro hrow (And.intro hb hS2))
  have hrow' := hrow
  obtain ⟨G, cp, rfl, _, _⟩ := hrow'
  rw [HN.out] at H2
  simp only [HN.out]
  clear hrow hb hS2
  go_wp2_with fail
  have hmk := HG.out.2.2.1 w2 H2.out.2.2
  rw [HN.out] at hmk
  refine hmk.mono ?_
  rintro e w3 ⟨rfl, h3, k3⟩
  clear hmk
  have hr3 := H2.out.1.keep k3 (fun k h1 h2 => Or.inr ⟨h1, h2⟩)
  have H3 := Lib.hid (And.intro h3 (And.intro k3 hr3))
  clear h3 k3 hr3
  cases er with
  | succ er =>
    have hq1 : (((er + 1 : Nat) : Int) != 0) = true := by simp; omega
    obtain ⟨g1, hg1⟩ : ∃ g1, er + 1 = g1 := ⟨_, rfl⟩
    rw [hg1] at HG hq1 
    have hR1 : R = ((0, g1), S1) := by rw [← HG.out.2.2.2.1, ← hg1]; rfl
    have HR1 := Lib.hid hR1
    simp only [hg1]
    clear hR1 hg1
    go_wp2_with fail
    go_ret2
    obtain rfl := HR1.out
    exact ⟨rfl, H3.out.1.mono fun k hk => Or.inl hk, (Keep.of_below H2.out.2.1 HG.out.2.2.2.2.1.yl).trans (H3.out.2.1.mono fun k hk => Or.inl hk)⟩
  | zero =>
    have hR1 : R = ((hh, 0), putWords S1 hh 0 ws) := by rw [← HG.out.2.2.2.1]; rfl
    have HR1 := Lib.hid hR1
    clear hR1
    go_wp2_with fail
    go_loopw [11, 12, 40] (fun _ _ i wr => ∃ k : Nat, k ≤ n ∧ i = .int .i64 k ∧ ∃ Sk, StOn wr ps Sk (fun k => Y k ∨ (w.heap.size ≤ k ∧ k < w2.heap.size)) ∧ Inv Sk ∧ putWords Sk hh k (ws.drop k) = R.2 ∧ Keep (fun k => Y k ∨ (w.heap.size ≤ k ∧ k < w2.heap.size)) w2 wr) (fun _ _ i _ => n - (intOf i).toNat)
    case atStart => exact ⟨0, by omega, rfl, S1, H3.out.1, HG.out.2.2.2.2.2.2, by rw [HR1.out]; rfl, H3.out.2.1⟩
    case round =>
      obtain ⟨k, hk, rfl, Sk, hSk, hIk, hpk, hkk⟩ := hrel
      by_cases hlt : k < n
      · have hlt' : (k : Int) < n := by omega
        have hlw : k < ws.length := by rw [HN.out]; exact hlt
        obtain ⟨G', c', he, _, hcs⟩ := H2.out.1.keep hkk (fun k h1 h2 => Or.inr ⟨h1, h2⟩)
        injection he with he1 he2 he3
        injection he1 with he1
        injection he1 with he1
        subst he1
        have c1 := hcs k hlw
        have hx := HG.out.2.2.2.2.2.1 _ (List.getElem_mem hlw)
        have hd : ws.drop k = ws[k] :: ws.drop (k + 1) := List.drop_eq_getElem_cons hlw
        rw [hd] at hpk
        have hpu := st_put hSk hIk hh k ws[k] hmlt (by omega) hx
        have hin := hIk.put hh k ws[k]
        generalize ws[k] = x at *
        have HK := Lib.hid (And.intro hpu (And.intro hin (And.intro hpk (And.intro hkk hlw))))
        clear hpu hin hpk hkk hlw hcs hd hSk hIk he2 he3
        go_wp2_with fail
        refine HK.out.1.mono ?_
        rintro e w4 ⟨rfl, h4, k4⟩
        have H4 := Lib.hid (And.intro h4 (HK.out.2.2.2.1.trans k4))
        clear h4 k4
        go_wp2_with fail
        go_roundw
        case rel => exact ⟨k + 1, by omega, by simp, _, H4.out.1, HK.out.2.1, HK.out.2.2.1, H4.out.2⟩
        case measure => simp [intOf]; omega
      · obtain rfl : k = n := by omega
        have HK := Lib.hid (And.intro hSk (And.intro hpk hkk))
        clear hSk hpk hkk hIk
        go_wp2_with fail
        go_ret2
        have hf : Sk = R.2 := by rw [← HK.out.2.1, List.drop_eq_nil_of_le (by rw [HN.out]; exact Nat.le_refl _)]; rfl
        have e1 : R.1 = (hh, 0) := by rw [HR1.out]
        rw [e1, ← hf]
        exact ⟨rfl, HK.out.1.mono fun k hk => Or.inl hk, (Keep.of_below H2.out.2.1 HG.out.2.2.2.2.1.yl).trans (HK.out.2.2.mono fun k hk => Or.inl hk)⟩
end Go.Proofs.YtepdkbmnkjfcpaaGreatDoor
namespace Go.Proofs.YtepdkbmnkjfcpaaGreatDoor
open Go.RowKit Go.BigFrame Go.Maps Go.WideMaps Lf
open Go.Shelf
attribute [local go_sem] Oper.semAt_some
abbrev U64 := { x : Nat // x < 18446744073709551616 }
def encU (x : U64) : Array Value := #[.int .u64 (x.1 : Nat)]
def valsU (l : List U64) : List Nat := l.map (·.1)
theorem get_lt {w : World} {ps : Nat} {S : St} {Y : Nat → Prop} (h : StOn w ps S Y) (hh k : Nat) : (S.get hh k).1 < 18446744073709551616 := by
  obtain ⟨pa, pm, ph, pt, v, h⟩ := h
  rw [St.get_place]
  rcases S.place_cases hh k with ⟨p, hp⟩ | ⟨e, hp⟩
  · rw [hp]; exact h.heap.rd_lt p
  · rw [hp]; show 0 < _; omega
theorem blob_words (ps hh : Nat) (w : World) :
    Calls Tryz.prog 105 #[PV ps, .int .u64 hh] w fun e w' => e = .returned (.func (.func 140) #[] #[PV w.heap.size, PV (w.heap.size + 1)]) ∧ w' = (w.alloc (.cells #[PV ps] 25)).alloc (.cells #[.int .u64 hh] 43) := by
  go_enter Tryz.func105, Tryz.ntmps105
  go_wp2
  go_ret
  exact ⟨rfl, rfl⟩
theorem words_stops {w : World} {ps : Nat} {S : St} {Y : Nat → Prop} (h : StOn w ps S Y) (hi : Inv S) (hh : Nat) (hl : hh < 18446744073709551616) (Bs Bh : Nat) (hBs : Bs < w.heap.size ∧ w.cell? ⟨Bs, 0, none⟩ = some (PV ps)) (hBh : Bh < w.heap.size ∧ w.cell? ⟨Bh, 0, none⟩ = some (.int .u64 hh)) :
    SeqStopsK Fence.wide 6 Tryz.prog 140 #[PV Bs, PV Bh] encU (Below w.heap.size) (fun xs => valsU xs = recWords S hh) (fun _ => True) 3998 w := fun l J Jx W hW hJ hJx hY h0 => by
  have hfL : Fence.wide.fn 85 := trivial
  have hfG : Fence.wide.fn 119 := trivial
  have hlen : CallsIn Fence.wide 5 Tryz.prog 85 #[PV ps, .int .u64 hh] W _ := callsIn_wide.2 (st_len (h.below hW) hi hh hl)
  have hget : ∀ W', Below w.heap.size w W' → ∀ k : Nat, k ≤ 4000 → CallsIn Fence.wide 5 Tryz.prog 119 #[PV ps, .int .u64 hh, .int .i64 k] W' _ := fun W' hW' k hk => callsIn_wide.2 (st_get (h.below hW') hi hh k hl (by omega))
  have hglt := fun k => get_lt h hh k
  have hn : (S.len hh).1 ≤ 3998 := hi.at_le hh
  obtain ⟨q, hq⟩ : ∃ q, recWords S hh = q := ⟨_, rfl⟩
  have hq1 : ∀ k, q.take (k + 1) = if k < (S.len hh).1 then q.take k ++ [(S.get hh k).1] else q.take k := fun k => by
    rw [← hq]
    unfold recWords
    split
    · rename_i hk
      rw [← List.map_take, ← List.map_take, List.take_range, List.take_range, Nat.min_eq_left (by omega), Nat.min_eq_left (by omega), List.range_succ, List.map_append]
      rfl
    · rename_i hk
      rw [List.take_of_length_le (by simp; omega), List.take_of_length_le (by simp; omega)]
  have hql : q.length = (S.len hh).1 := by rw [← hq]; simp [recWords]
  rw [hq]
  obtain ⟨n, hnn⟩ : ∃ n, (S.len hh).1 = n := ⟨_, rfl⟩
  rw [hnn] at hlen hn hq1 hql
  have cs := (hW.cell (p := ⟨Bs, 0, none⟩) hBs.1).trans hBs.2
  have ch := (hW.cell (p := ⟨Bh, 0, none⟩) hBh.1).trans hBh.2
  have HG := Lib.hid (And.intro hget (And.intro hglt (And.intro hq1 (And.intro hql (And.intro hBs (And.intro hBh hW))))))
  have HJ := Lib.hid (And.intro hJ (And.intro hJx (And.intro hY h0)))
  have HL := Lib.hid hlen
  clear hget hglt hq hq1 hql hBs hBh hW hJ hJx hY h0 hlen hnn hi h
  refine callsIn_of_wp Tryz.func140 rfl trivial ?_ rfl
  simp only [Tryz.ntmps140, List.size_toArray, List.length_cons, List.length_nil, Nat.reduceAdd, Nat.reduceSub, Array.replicate_succ, Array.replicate_zero, List.push_toArray, List.append_toArray, List.nil_append, List.cons_append]
  gi_wp2_with fail
  refine HL.out.mono ?_
  rintro e w1 ⟨rfl, rfl⟩
  clear HL
  gi_wp2_with fail
  gi_loopw [6, 7, 8, 16] (fun _ _ _ i wr => ∃ k : Nat, k ≤ n ∧ i = .int .i64 k ∧ Hid (Below w.heap.size w wr ∧ ∃ pX, valsU pX = q.take k ∧ J pX wr)) (fun _ _ _ i _ => n - (intOf i).toNat)
  case atStart => exact ⟨0, by omega, rfl, HG.out.2.2.2.2.2.2, [], rfl, HJ.out.2.2.2⟩
  case round =>
    obtain ⟨k, hk, rfl, hin⟩ := hrel
    by_cases hlt : k < n
    · have hlt' : (k : Int) < n := by omega
      have cs := (hin.out.1.cell (p := ⟨Bs, 0, none⟩) HG.out.2.2.2.2.1.1).trans HG.out.2.2.2.2.1.2
      have ch := (hin.out.1.cell (p := ⟨Bh, 0, none⟩) HG.out.2.2.2.2.2.1.1).trans HG.out.2.2.2.2.2.1.2
      have hge := HG.out.1 wr hin.out.1 k (by omega)
      obtain ⟨pX, hpX, hJX⟩ := hin.out.2
      have hpl : pX.length = k := by
        have := congrArg List.length hpX
        simp only [valsU, List.length_map, List.length_take] at this
        rw [HG.out.2.2.2.1] at this
        omega
      obtain ⟨xX, hxX⟩ : ∃ xX : U64, (S.get hh k).1 = xX.1 := ⟨⟨_, HG.out.2.1 k⟩, rfl⟩
      obtain ⟨fn, tmps, assign, body, hy, hRd⟩ := HJ.out.2.2.1 pX xX wr hJX (by omega)
      have hv : valsU (pX ++ [xX]) = q.take (k + 1) := by
        rw [HG.out.2.2.1 k, if_pos hlt, ← hpX, hxX]
        simp [valsU]
      dsimp only [encU] at hy
      rw [hxX] at hge
      generalize (S.get hh k).2 = er at hge
      obtain ⟨x, hx⟩ := xX
      simp only at hge hy
      clear hxX
      have HV := Lib.hid hv
      have HE := Lib.hid hge
      clear hv hge hpX hJX hpl
      gi_wp2_with fail
      refine HE.out.mono ?_
      rintro e w2 ⟨rfl, rfl⟩
      clear HE
      gi_wp2_with fail
      refine hRd.mono ?_
      rintro e w4 (⟨rfl, hJ4, hk4'⟩ | ⟨rfl, hJx4⟩)
      · have H4 := Lib.hid (And.intro (hin.out.1.trans hk4') hJ4)
        clear hJ4 hk4' hy hRd
        gi_wp2_with fail
        go_roundw
        case rel => exact ⟨k + 1, by omega, by simp, H4.out.1, _, HV.out, H4.out.2⟩
        case measure => simp [intOf]; omega
      · have H4 := Lib.hid hJx4
        clear hJx4 hy hRd
        gi_wp2_with fail
        refine bodyPost_ret (results_none rfl _ _ _) rfl ?_
        exact ⟨⟨_, rfl⟩, .inr ⟨_, trivial, H4.out⟩⟩
    · obtain rfl : k = n := by omega
      gi_wp2
      go_end0
      obtain ⟨pX, hpX, hJX⟩ := hin.out.2
      rw [List.take_of_length_le (by rw [HG.out.2.2.2.1]; exact Nat.le_refl _)] at hpX
      exact ⟨⟨_, rfl⟩, .inl ⟨_, hpX, hJX⟩⟩
end Go.Proofs.YtepdkbmnkjfcpaaGreatDoor
