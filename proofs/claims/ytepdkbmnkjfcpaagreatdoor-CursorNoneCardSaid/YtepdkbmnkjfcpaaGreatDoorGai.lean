/- The handles' table in memory; none, of, At: the walks. The handles' table: At, New, name: the walks. The handles' table: Open: the walk. -/
import Derived.Test.YtepdkbmnkjfcpaaGreatDoorGah
import Derived.Laws.AppendOwn
import Derived.OwnWalk
namespace Go.Proofs.YtepdkbmnkjfcpaaGreatDoor
open Go.RowKit Go.BigFrame Go.Maps Go.WideMaps Lf

structure TabWF (t : Tab) : Prop where
  most : 1 ≤ t.most ∧ t.most ≤ 65536
  last : 1 ≤ t.last ∧ t.last < 4294967296
  len : t.slots.length ≤ t.most
  slot : ∀ x ∈ t.slots, x.is ≤ 2 ∧ x.gen < 4294967296 ∧ x.addr ≤ 4611686018427387903
def slotCells (x : Slot) : List Value := [.int .i64 x.is, .int .u32 x.gen, .int .i64 x.addr]
def slotRow (l : List Slot) : List Value := l.flatMap slotCells
/-- a table in memory: its struct is block pt, v its row of slots -/
structure TabOn (w : World) (pt : Nat) (t : Tab) (v : Value) : Prop where
  wf : TabWF t
  hd : w.heap[pt]? = some (.cells #[.int .i64 t.most, .int .u32 t.last, v] 156 (0, 0))
  row : w.ownsRow 0 250 3 v t.slots.length (slotRow t.slots)

theorem slotRow_length (l : List Slot) : (slotRow l).length = l.length * 3 := by
  induction l with
  | nil => rfl
  | cons x r ih => simp only [slotRow, List.flatMap_cons, List.length_append, slotCells, List.length_cons, List.length_nil] at ih ⊢; omega
theorem slotRow_get (l : List Slot) : ∀ (k j : Nat) (h : k < l.length), j < 3 → (slotRow l)[k * 3 + j]? = (slotCells l[k])[j]? := by
  induction l with
  | nil => intro k j h; simp at h
  | cons x r ih =>
    intro k j h hj
    cases k with
    | zero =>
      simp only [slotRow, List.flatMap_cons, Nat.zero_mul, Nat.zero_add, List.getElem_cons_zero]
      rw [List.getElem?_append_left (by simp [slotCells]; omega)]
    | succ k =>
      simp only [slotRow, List.flatMap_cons, List.getElem_cons_succ]
      rw [List.getElem?_append_right (by simp [slotCells]; omega), show (k + 1) * 3 + j - (slotCells x).length = k * 3 + j by simp [slotCells]; omega]
      exact ih k j (by simpa using h) hj
/-- the row's form and its cells -/
theorem TabOn.cells {w : World} {pt : Nat} {t : Tab} {v : Value} (h : TabOn w pt t v) :
    (t.slots = [] ∧ v = .slice none 0 0) ∨ ∃ g cap, v = .slice (some ⟨g, 0, none⟩) t.slots.length cap ∧ ∀ (k : Nat) (hk : k < t.slots.length),
      w.cell? ⟨g, k * 3, none⟩ = some (.int .i64 t.slots[k].is) ∧ w.cell? ⟨g, k * 3 + 1, none⟩ = some (.int .u32 t.slots[k].gen) ∧ w.cell? ⟨g, k * 3 + 2, none⟩ = some (.int .i64 t.slots[k].addr) := by
  rcases h.row.2 with ⟨h0, hx⟩ | ⟨g, cap, cur, hv, _, hb, h1, _, h3, h4⟩
  · exact Or.inl ⟨List.length_eq_zero_iff.1 hx, h0⟩
  · refine Or.inr ⟨g, cap, hv, fun k hk => ?_⟩
    have key : ∀ j, j < 3 → w.cell? ⟨g, k * 3 + j, none⟩ = (slotCells t.slots[k])[j]? := fun j hj => by
      rw [cell_of_block hb, ← slotRow_get t.slots k j hk hj, ← h4, List.getElem?_take_of_lt (by omega), Array.getElem?_toList]
    exact ⟨key 0 (by decide), key 1 (by decide), key 2 (by decide)⟩

set_option maxRecDepth 100000 in
set_option maxHeartbeats 400000 in
theorem tab_none {w : World} {pt : Nat} {t : Tab} {v : Value} (h : TabOn w pt t v) :
    Calls Tryz.prog 177 #[PV pt] w fun e w' => e = .returned (.bool false) ∧ w = w' := by
  have c0 : w.cell? ⟨pt, 0, none⟩ = some (.int .i64 t.most) := by rw [cell_of_block h.hd]; rfl
  have hm := h.wf.most
  have hb : ((t.most : Int) == 0) = false := by simp; omega
  clear h
  go_enter Tryz.func177, Tryz.ntmps177
  go_wp2
  go_ret
  exact ⟨rfl, rfl⟩

/-- the pointer to a slot -/
def slotP (v : Value) (k : Nat) : Value := match v with | .slice (some ⟨g, 0, none⟩) _ _ => .pointer (some ⟨g, k * 3, none⟩) | _ => .pointer none

set_option maxRecDepth 100000 in
set_option maxHeartbeats 800000 in
theorem tab_of {w : World} {pt : Nat} {t : Tab} {v : Value} (h : TabOn w pt t v) (hh : Nat) (hl : hh < 18446744073709551616) :
    Calls Tryz.prog 170 #[PV pt, .int .u64 hh] w fun e w' => e = .returned (match t.of hh with | some k => .tuple #[slotP v k, .int .i64 0] | none => .tuple #[.pointer none, .int .i64 7]) ∧ w = w' := by
  have hno := tab_none h
  have c2 : w.cell? ⟨pt, 2, none⟩ = some v := by rw [cell_of_block h.hd]; rfl
  have hand : bits BinOp.and IntKind.u64 (hh : Int) 4294967295 = ((hh % 4294967296 : Nat) : Int) := by
    rw [show (4294967295 : Int) = ((4294967295 : Nat) : Int) from rfl, bits_and_u64_nat _ _ hl (by decide)]
    congr 1
    exact Nat.and_two_pow_sub_one_eq_mod hh 32
  obtain ⟨q, hq⟩ : ∃ q, hh % 4294967296 = q := ⟨_, rfl⟩
  obtain ⟨g, hg⟩ : ∃ g, hh / 4294967296 = g := ⟨_, rfl⟩
  have hshr : (hh : Int) / 4294967296 = (g : Int) := by omega
  have hq2 : q < 4294967296 := by omega
  have hg2 : g < 4294967296 := by omega
  rw [hq] at hand
  obtain ⟨R, hR⟩ : ∃ R, (match t.of hh with | some k => Value.tuple #[slotP v k, .int .i64 0] | none => .tuple #[.pointer none, .int .i64 7]) = R := ⟨_, rfl⟩
  rw [hR]
  have hof : t.of hh = if q = 0 then none else match t.slots[q - 1]? with | none => none | some x => if x.is = 1 ∧ x.gen = g then some (q - 1) else none := by
    unfold Tab.of
    simp only [hq, hg]
    rfl
  by_cases h0 : q = 0
  · rw [h0, if_pos rfl] at hof
    have hRe : R = .tuple #[.pointer none, .int .i64 7] := by rw [← hR, hof]
    subst h0
    have HG := Lib.hid (And.intro hno hRe)
    clear hno hRe hR hof h hq hg hshr
    go_enter Tryz.func170, Tryz.ntmps170
    go_wp2_with fail
    refine HG.out.1.mono ?_
    rintro e w1 ⟨rfl, rfl⟩
    go_wp2_with fail
    go_ret2
    obtain rfl := HG.out.2
    exact ⟨rfl, rfl⟩
  · rw [if_neg h0] at hof
    rcases h.cells with ⟨he, hv⟩ | ⟨b, cap, hv, hcs⟩
    · rw [he] at hof
      have hRe : R = .tuple #[.pointer none, .int .i64 7] := by rw [← hR, hof]; rfl
      subst hv
      have h1 : ¬ ((q : Int) - 1 < 0) := by omega
      have HG := Lib.hid (And.intro hno hRe)
      clear hno hRe hR hof h hq hg he hshr
      go_enter Tryz.func170, Tryz.ntmps170
      go_wp2_with fail
      refine HG.out.1.mono ?_
      rintro e w1 ⟨rfl, rfl⟩
      go_wp2_with fail
      go_ret2
      obtain rfl := HG.out.2
      exact ⟨rfl, rfl⟩
    · obtain ⟨k, rfl⟩ : ∃ k, q = k + 1 := ⟨q - 1, by omega⟩
      rw [Nat.add_sub_cancel] at hof
      have hlen := h.wf.len
      have hmost := h.wf.most
      by_cases hk : k < t.slots.length
      · obtain ⟨k0, k1, _⟩ := hcs k hk
        rw [List.getElem?_eq_getElem hk] at hof
        simp only at hof
        have hgl := (h.wf.slot _ (List.getElem_mem hk)).2.1
        clear hcs
        generalize t.slots[k] = x at *
        clear h
        generalize hL : t.slots.length = L at *
        obtain ⟨xi, xg, xa⟩ := x
        simp only at hof k0 k1 hgl
        subst hv
        have hkl : (k : Int) < L := by omega
        by_cases h1 : xi = 1
        · by_cases h2 : xg = g
          · have hRe : R = .tuple #[.pointer (some ⟨b, k * 3, none⟩), .int .i64 0] := by rw [← hR, hof, if_pos ⟨h1, h2⟩]; rfl
            subst h1 h2
            have HG := Lib.hid (And.intro hno hRe)
            clear hno hRe hR hof hq hg hL h0
            go_enter Tryz.func170, Tryz.ntmps170
            go_wp2_with fail
            refine HG.out.1.mono ?_
            rintro e w1 ⟨rfl, rfl⟩
            go_wp2_with fail
            go_ret2
            obtain rfl := HG.out.2
            exact ⟨rfl, rfl⟩
          · have hRe : R = .tuple #[.pointer none, .int .i64 7] := by rw [← hR, hof, if_neg (fun hh => h2 hh.2)]
            have hq2 : ((xg : Int) != g) = true := by simp; omega
            subst h1
            have HG := Lib.hid (And.intro hno hRe)
            clear hno hRe hR hof hq hg hL h0 h2
            go_enter Tryz.func170, Tryz.ntmps170
            go_wp2_with fail
            refine HG.out.1.mono ?_
            rintro e w1 ⟨rfl, rfl⟩
            go_wp2_with fail
            go_ret2
            obtain rfl := HG.out.2
            exact ⟨rfl, rfl⟩
        · have hRe : R = .tuple #[.pointer none, .int .i64 7] := by rw [← hR, hof, if_neg (fun hh => h1 hh.1)]
          have hq2 : ((xi : Int) != 1) = true := by simp; omega
          have HG := Lib.hid (And.intro hno hRe)
          clear hno hRe hR hof hq hg hL h0 h1
          go_enter Tryz.func170, Tryz.ntmps170
          go_wp2_with fail
          refine HG.out.1.mono ?_
          rintro e w1 ⟨rfl, rfl⟩
          go_wp2_with fail
          go_ret2
          obtain rfl := HG.out.2
          exact ⟨rfl, rfl⟩
      · rw [List.getElem?_eq_none (by omega)] at hof
        have hRe : R = .tuple #[.pointer none, .int .i64 7] := by rw [← hR, hof]
        clear hcs h
        generalize hL : t.slots.length = L at *
        subst hv
        have hkl : (L : Int) ≤ k := by omega
        have HG := Lib.hid (And.intro hno hRe)
        clear hno hRe hR hof hq hg hL h0
        go_enter Tryz.func170, Tryz.ntmps170
        go_wp2_with fail
        refine HG.out.1.mono ?_
        rintro e w1 ⟨rfl, rfl⟩
        go_wp2_with fail
        go_ret2
        obtain rfl := HG.out.2
        exact ⟨rfl, rfl⟩
end Go.Proofs.YtepdkbmnkjfcpaaGreatDoor

namespace Go.Proofs.YtepdkbmnkjfcpaaGreatDoor
open Go.RowKit Go.BigFrame Go.Maps Go.WideMaps Lf

theorem Tab.of_lt {t : Tab} {h k : Nat} (hk : t.of h = some k) : ∃ hlt : k < t.slots.length, t.slots[k].is = 1 ∧ t.slots[k].gen = h / 4294967296 ∧ k + 1 = h % 4294967296 := by
  unfold Tab.of at hk
  simp only at hk
  split at hk
  · cases hk
  · rename_i h0
    split at hk
    · cases hk
    · rename_i x hx
      split at hk
      · rename_i hc
        injection hk with hk
        obtain ⟨hlt, hxe⟩ := List.getElem?_eq_some_iff.1 hx
        subst hk
        refine ⟨hlt, ?_, ?_, by omega⟩
        · rw [hxe]; exact hc.1
        · rw [hxe]; exact hc.2
      · cases hk
theorem tab_at_eq {t : Tab} {h k : Nat} (hk : t.of h = some k) (hlt : k < t.slots.length) : t.at h = (t.slots[k].addr, 0) := by
  unfold Tab.at
  rw [hk]
  simp only
  rw [List.getD_eq_getElem?_getD, List.getElem?_eq_getElem hlt]
  rfl

set_option maxRecDepth 100000 in
set_option maxHeartbeats 800000 in
theorem tab_at {w : World} {pt : Nat} {t : Tab} {v : Value} (h : TabOn w pt t v) (hh : Nat) (hl : hh < 18446744073709551616) :
    Calls Tryz.prog 164 #[PV pt, .int .u64 hh] w fun e w' => e = .returned (.tuple #[.int .i64 ((t.at hh).1 : Nat), .int .i64 ((t.at hh).2 : Nat)]) ∧ w = w' := by
  have ho := tab_of h hh hl
  cases hk : t.of hh with
  | none =>
    have he : t.at hh = (0, 7) := by unfold Tab.at; rw [hk]
    rw [hk] at ho
    rw [he]
    have HO := Lib.hid ho
    clear ho he hk h
    go_enter Tryz.func164, Tryz.ntmps164
    go_wp2_with fail
    refine HO.out.mono ?_
    rintro e w1 ⟨rfl, rfl⟩
    go_wp2_with fail
    go_ret2
    exact ⟨rfl, rfl⟩
  | some k =>
    obtain ⟨hlt, _⟩ := Tab.of_lt hk
    have he := tab_at_eq hk hlt
    rw [hk] at ho
    rw [he]
    rcases h.cells with ⟨h0, _⟩ | ⟨b, cap, hv, hcs⟩
    · rw [h0] at hlt; simp at hlt
    · have k2 := (hcs k hlt).2.2
      generalize t.slots[k] = x at *
      rw [hv] at ho
      simp only [slotP] at ho
      have HO := Lib.hid ho
      clear ho he hk hcs h hv
      go_enter Tryz.func164, Tryz.ntmps164
      go_wp2_with fail
      refine HO.out.mono ?_
      rintro e w1 ⟨rfl, rfl⟩
      go_wp2_with fail
      go_ret2
      exact ⟨rfl, rfl⟩

set_option maxRecDepth 100000 in
set_option maxHeartbeats 400000 in
theorem tab_new (n l : Nat) (w : World) (hn : 1 ≤ n ∧ n ≤ 65536) (hl : 1 ≤ l ∧ l < 4294967296) :
    Calls Tryz.prog 63 #[.int .i64 n, .int .u32 l] w fun e w' => e = .returned (.tuple #[PV w.heap.size, .int .i64 0]) ∧ TabOn w' w.heap.size ⟨n, l, []⟩ (.slice none 0 0) ∧ Below w.heap.size w w' := by
  obtain ⟨h1, h2⟩ := hn
  obtain ⟨h3, h4⟩ := hl
  have ht : TabOn (w.alloc (.cells #[.int .i64 n, .int .u32 l, .slice none 0 0] 156)) w.heap.size ⟨n, l, []⟩ (.slice none 0 0) := by
    refine ⟨⟨⟨h1, h2⟩, ⟨h3, h4⟩, Nat.zero_le _, fun x hx => absurd hx (by simp)⟩, ?_, World.ownsRow_nil _ _ _ _⟩
    show (w.heap.push _)[w.heap.size]? = _
    simp
  have HT := Lib.hid ht
  clear ht
  go_enter Tryz.func63, Tryz.ntmps63
  go_wp2
  go_ret2
  exact ⟨rfl, HT.out, (Below.refl _ _).alloc (Nat.le_refl _) _⟩
set_option maxRecDepth 100000 in
set_option maxHeartbeats 400000 in
theorem tab_new_no (n : Int) (l : Nat) (w : World) (hn : n < 1 ∨ 65536 < n ∨ l < 1) :
    Calls Tryz.prog 63 #[.int .i64 n, .int .u32 l] w fun e w' => e = .returned (.tuple #[.pointer none, .int .i64 2]) ∧ w = w' := by
  have hd : n < 1 ∨ (1 ≤ n ∧ 65536 < n) ∨ (1 ≤ n ∧ n ≤ 65536 ∧ (l : Int) < 1) := by omega
  clear hn
  rcases hd with hd | ⟨hd1, hd⟩ | ⟨hd1, hd2, hd⟩
  all_goals
    go_enter Tryz.func63, Tryz.ntmps63
    go_wp2
    go_ret2
    exact ⟨rfl, rfl⟩

set_option maxRecDepth 100000 in
set_option maxHeartbeats 400000 in
theorem tab_name {w : World} {pt : Nat} {t : Tab} {v : Value} (h : TabOn w pt t v) (k : Nat) (hk : k < t.slots.length) :
    Calls Tryz.prog 178 #[PV pt, .int .i64 k] w fun e w' => e = .returned (.int .u64 (nameOf t.slots[k].gen k : Nat)) ∧ w = w' := by
  have c2 : w.cell? ⟨pt, 2, none⟩ = some v := by rw [cell_of_block h.hd]; rfl
  have hlen := h.wf.len
  have hmost := h.wf.most
  rcases h.cells with ⟨h0, _⟩ | ⟨b, cap, hv, hcs⟩
  · rw [h0] at hk; simp at hk
  · have k1 := (hcs k hk).2.1
    have hg := (h.wf.slot _ (List.getElem_mem hk)).2.1
    clear hcs
    generalize t.slots[k].gen = g at *
    clear h
    generalize hL : t.slots.length = L at *
    subst hv
    have hkl : (k : Int) < L := by omega
    have hor : bits BinOp.or IntKind.u64 ((g : Int) * 4294967296) ((k : Int) + 1) = ((nameOf g k : Nat) : Int) := by
      rw [show ((g : Int) * 4294967296) = ((g * 4294967296 : Nat) : Int) by simp, show ((k : Int) + 1) = ((k + 1 : Nat) : Int) by simp, bits_or_u64_nat _ _ (by omega) (by omega)]
      congr 1
      have h8 := Nat.shiftLeft_add_eq_or_of_lt (i := 32) (b := k + 1) (by omega) g
      rw [Nat.shiftLeft_eq] at h8
      exact h8.symm
    have HOR := Lib.hid hor
    clear hor hL
    go_enter Tryz.func178, Tryz.ntmps178
    go_wp2
    go_ret
    rw [← HOR.out]
    exact ⟨rfl, rfl⟩
end Go.Proofs.YtepdkbmnkjfcpaaGreatDoor

namespace Go.Proofs.YtepdkbmnkjfcpaaGreatDoor
open Go.RowKit Go.BigFrame Go.Maps Go.WideMaps Lf

theorem firstFree_eq : ∀ (l : List Slot) (k0 k : Nat), k ≤ l.length → (∀ j (h : j < l.length), j < k → l[j].is ≠ 0) → (k = l.length ∨ ∃ h : k < l.length, l[k].is = 0) → firstFree l k0 = k0 + k
  | [], k0, k, hk, _, _ => by
    have : k = 0 := by simpa using hk
    subst this; rfl
  | x :: r, k0, k, hk, h1, h2 => by
    unfold firstFree
    cases k with
    | zero =>
      rcases h2 with h2 | ⟨h, h2⟩
      · simp at h2
      · rw [if_pos (by simpa using h2)]; rfl
    | succ k =>
      have hx := h1 0 (by simp) (by omega)
      rw [if_neg (by simpa using hx), firstFree_eq r (k0 + 1) k (by simpa using hk) (fun j h hj => by have := h1 (j + 1) (by simpa using h) (by omega); simpa using this) (by
        rcases h2 with h2 | ⟨h, h2⟩
        · exact Or.inl (by simpa using h2)
        · exact Or.inr ⟨by simpa using h, by simpa using h2⟩)]
      omega
theorem slotRow_set : ∀ (l : List Slot) (k : Nat) (x : Slot), k < l.length → (((slotRow l).set (k * 3) (.int .i64 x.is)).set (k * 3 + 1) (.int .u32 x.gen)).set (k * 3 + 2) (.int .i64 x.addr) = slotRow (l.set k x)
  | [], k, _, h => by simp at h
  | y :: r, 0, x, _ => rfl
  | y :: r, k + 1, x, h => by
    have ih := slotRow_set r k x (by simpa using h)
    have e : slotRow (y :: r) = (.int .i64 y.is) :: (.int .u32 y.gen) :: (.int .i64 y.addr) :: slotRow r := rfl
    have e2 : slotRow ((y :: r).set (k + 1) x) = (.int .i64 y.is) :: (.int .u32 y.gen) :: (.int .i64 y.addr) :: slotRow (r.set k x) := rfl
    rw [e, e2, ← ih, show (k + 1) * 3 = k * 3 + 1 + 1 + 1 by omega, show k * 3 + 1 + 1 + 1 + 1 = k * 3 + 1 + 1 + 1 + 1 from rfl, show k * 3 + 1 + 1 + 1 + 2 = k * 3 + 2 + 1 + 1 + 1 by omega]
    simp only [List.set_cons_succ]
theorem slotRow_append (l m : List Slot) : slotRow (l ++ m) = slotRow l ++ slotRow m := by unfold slotRow; exact List.flatMap_append

/-- the world behind a slot's store -/
def putSlot (w : World) (g k : Nat) (x : Slot) : World := ((w.setCell ⟨g, k * 3, none⟩ (.int .i64 x.is)).setCell ⟨g, k * 3 + 1, none⟩ (.int .u32 x.gen)).setCell ⟨g, k * 3 + 2, none⟩ (.int .i64 x.addr)
theorem putSlot_other {w : World} {g k b : Nat} {x : Slot} (h : b ≠ g) : (putSlot w g k x).heap[b]? = w.heap[b]? := by
  unfold putSlot
  rw [heap_setCell_ne h, heap_setCell_ne h, heap_setCell_ne h]
theorem putSlot_size (w : World) (g k : Nat) (x : Slot) : (putSlot w g k x).heap.size = w.heap.size := by unfold putSlot; rw [size_setCell, size_setCell, size_setCell]
theorem owns_putSlot {w : World} {g cap k : Nat} {l : List Slot} (h : w.ownsRow 0 250 3 (.slice (some ⟨g, 0, none⟩) l.length cap) l.length (slotRow l)) (x : Slot) (hk : k < l.length) :
    (putSlot w g k x).ownsRow 0 250 3 (.slice (some ⟨g, 0, none⟩) l.length cap) l.length (slotRow (l.set k x)) := by
  rcases h.2 with ⟨h0, _⟩ | ⟨g', cap', cur, hv, hg, hb, h1, h2, h3, h4⟩
  · cases h0
  · injection hv with hv1 hv2 hv3
    injection hv1 with hv1
    injection hv1 with hv1
    subst hv1 hv3
    refine ⟨by rw [slotRow_length, List.length_set], Or.inr ⟨g, cap, ((cur.setIfInBounds (k * 3) (.int .i64 x.is)).setIfInBounds (k * 3 + 1) (.int .u32 x.gen)).setIfInBounds (k * 3 + 2) (.int .i64 x.addr), rfl, hg, ?_, h1, h2, by simpa using h3, ?_⟩⟩
    · unfold putSlot
      exact heap_setCell (heap_setCell (heap_setCell hb))
    · have hsp : cur.toList = slotRow l ++ cur.toList.drop (l.length * 3) := by rw [← h4, List.take_append_drop]
      have hl := slotRow_length l
      simp only [Array.toList_setIfInBounds]
      rw [hsp, List.set_append_left _ _ (by omega), List.set_append_left _ _ (by simp; omega), List.set_append_left _ _ (by simp; omega), List.take_left' (by simp; omega), slotRow_set l k x hk]
theorem slotInfo : (Tryz.prog.info? 250).map (fun i => (i.zero, i.size, i.bytes)) = some (some (.agg #[.int .i64 0, .int .u32 0, .int .i64 0]), 3, 24) := by kernel_rfl
end Go.Proofs.YtepdkbmnkjfcpaaGreatDoor
