/- Nodes of B-trees: is, Words, fits: the walks. Nodes of B-trees: fits, Words: the walks, at nodes that fit. Nodes of B-trees: words: the walk. B-trees in a store: what is read, what stays, what is put; how many nodes are full on a way down: plain. -/
import Derived.Test.YtepdkbmnkjfcpaaGreatDoorVak
import Derived.BigRegion
import Derived.RegionTactic
import Derived.ChangeAlike
import Derived.Test.YtepdkbmnkjfcpaaGreatDoorVav
set_option maxRecDepth 100000
set_option maxHeartbeats 3200000
namespace Go.Proofs.YtepdkbmnkjfcpaaGreatDoor
open Go.RowKit Go.BigFrame Go.Maps Go.WideMaps Lf
structure Lf.BN where
  keys : List Nat
  vals : List Nat
  kids : List Nat
  size : Nat
def Lf.isDeg (t : Int) : Bool := decide (2 ≤ t) && decide (t ≤ 16)
def HRow (w : World) (v : Value) (l : List Nat) : Prop := ∃ A c, v = .slice A l.length c ∧ ∀ (i : Nat) (h : i < l.length), ∃ g o, A = some ⟨g, o, none⟩ ∧ w.cell? ⟨g, o + i, none⟩ = some (.int .u64 (l[i] : Nat))
theorem hcell_lt {w : World} {g o : Nat} {v : Value} (h : w.cell? ⟨g, o, none⟩ = some v) : g < w.heap.size := by
  unfold World.cell? at h
  split at h
  · rename_i heq; exact (Array.getElem?_eq_some_iff.1 heq).1
  · cases h
theorem HRow.below {w w' : World} {v : Value} {l : List Nat} (h : HRow w v l) (hb : Below w.heap.size w w') : HRow w' v l := by
  obtain ⟨A, c, rfl, hc⟩ := h
  refine ⟨A, c, rfl, fun i hi => ?_⟩
  obtain ⟨g, o, rfl, h1⟩ := hc i hi
  exact ⟨g, o, rfl, (hb.cell (p := ⟨g, _, none⟩) (hcell_lt h1)).trans h1⟩
theorem HRow.nil (w : World) : HRow w (.slice none 0 0) [] := ⟨none, 0, rfl, fun i hi => absurd hi (by simp)⟩
theorem bnode_is (t : Int) (w : World) :
    Calls Tryz.prog 187 #[.int .i64 t] w fun e w' => e = .returned (.bool (isDeg t)) ∧ w = w' := by
  by_cases h1 : 2 ≤ t
  · by_cases h2 : t ≤ 16
    · have HQ := Lib.hid (show isDeg t = true by unfold isDeg; rw [decide_eq_true h1, decide_eq_true h2]; rfl)
      go_enter Tryz.func187, Tryz.ntmps187
      go_wp2_with fail
      go_ret
      exact ⟨by rw [HQ.out]; rfl, rfl⟩
    · have HQ := Lib.hid (show isDeg t = false by unfold isDeg; rw [decide_eq_false h2]; simp)
      go_enter Tryz.func187, Tryz.ntmps187
      go_wp2_with fail
      go_ret
      exact ⟨by rw [HQ.out]; rfl, rfl⟩
  · have HQ := Lib.hid (show isDeg t = false by unfold isDeg; rw [decide_eq_false h1]; rfl)
    go_enter Tryz.func187, Tryz.ntmps187
    go_wp2_with fail
    go_ret
    exact ⟨by rw [HQ.out]; rfl, rfl⟩
theorem handles_index {w : World} {v : Value} {l : List Nat} (h : HRow w v l) (hl : l.length ≤ 100000) :
    Calls Tryz.prog 294 #[v, .int .u64 0] w fun e w' => ∃ k : Int, e = .returned (.int .i64 k) ∧ (decide (0 ≤ k) = l.contains 0) ∧ w = w' := by
  obtain ⟨A, c, rfl, hc⟩ := h
  obtain ⟨n, hn⟩ : ∃ n, l.length = n := ⟨_, rfl⟩
  rw [hn] at hl
  have H := Lib.hid (And.intro hc hn)
  rw [hn]
  clear hc hn
  go_enter Tryz.func294, Tryz.ntmps294
  go_wp2_with fail
  go_loopw [5, 8] (fun _ i wr => ∃ k : Nat, k ≤ n ∧ i = .int .i64 k ∧ wr = w ∧ ∀ (j : Nat) (hj : j < l.length), j < k → l[j] ≠ 0) (fun _ i _ => n - (intOf i).toNat)
  case atStart => exact ⟨0, by omega, rfl, rfl, fun j _ hj => absurd hj (by omega)⟩
  case round =>
    obtain ⟨k, hk, rfl, rfl, hne⟩ := hrel
    by_cases hlt : k < n
    · have hlt' : (k : Int) < n := by omega
      have hk' : k < l.length := by rw [H.out.2]; exact hlt
      obtain ⟨g, o, rfl, c1⟩ := H.out.1 k hk'
      by_cases h0 : l[k] = 0
      · have hc0 : l.contains 0 = true := by rw [List.contains_iff_mem, ← h0]; exact List.getElem_mem hk'
        rw [h0] at c1
        have HK := Lib.hid hc0
        clear hne hc0 h0
        go_wp2_with fail
        go_ret
        exact ⟨k, rfl, by rw [HK.out]; simp, rfl⟩
      · have hn0 : ((l[k] : Nat) : Int) ≠ 0 := by omega
        have hstep : ∀ (j : Nat) (hj : j < l.length), j < k + 1 → l[j] ≠ 0 := fun j hj h1 => by
          rcases Nat.lt_or_ge j k with h2 | h2
          · exact hne j hj h2
          · obtain rfl : j = k := by omega
            exact h0
        have HK := Lib.hid hstep
        clear hne hstep h0
        generalize l[k] = x at *
        have hx0 : ¬ x = 0 := by omega
        have hx1 : ¬ 0 = x := by omega
        have hx2 : ((0 : Int) == (x : Int)) = false := by simp; omega
        clear hn0
        go_wp2_with fail
        exact ⟨⟨k + 1, by omega, by simp, trivial, HK.out⟩, by simp [intOf]; omega⟩
    · obtain rfl : k = n := by omega
      have hc0 : l.contains 0 = false := by
        rw [Bool.eq_false_iff]
        intro h
        rw [List.contains_iff_mem] at h
        obtain ⟨j, hj, e⟩ := List.mem_iff_getElem.1 h
        exact hne j hj (by rw [← H.out.2]; exact hj) e
      have HK := Lib.hid hc0
      clear hne hc0
      go_wp2_with fail
      go_ret
      exact ⟨-1, rfl, by rw [HK.out]; simp, rfl⟩
theorem handles_contains {w : World} {v : Value} {l : List Nat} (h : HRow w v l) (hl : l.length ≤ 100000) :
    Calls Tryz.prog 276 #[v, .int .u64 0] w fun e w' => e = .returned (.bool (l.contains 0)) ∧ w = w' := by
  have HG := Lib.hid (handles_index h hl)
  clear h hl
  go_enter Tryz.func276, Tryz.ntmps276
  go_wp2_with fail
  refine HG.out.mono ?_
  rintro e w1 ⟨k, rfl, hk, rfl⟩
  have HK := Lib.hid hk
  clear hk
  go_wp2_with fail
  go_ret
  exact ⟨by rw [← HK.out]; rfl, rfl⟩
end Go.Proofs.YtepdkbmnkjfcpaaGreatDoor
namespace Go.Proofs.YtepdkbmnkjfcpaaGreatDoor
open Go.RowKit Go.BigFrame Go.Maps Go.WideMaps Lf
def bnV (vk vv vc : Value) (s : Nat) : Value := .agg #[vk, vv, vc, .int .u64 s]
structure BnOk (t : Nat) (n : BN) : Prop where
  lo : 2 ≤ t
  hi : t ≤ 16
  many : n.keys.length ≤ 2 * t - 1
  vals : n.vals.length = n.keys.length
  kids : n.kids.length = 0 ∨ (n.kids.length = n.keys.length + 1 ∧ n.kids.contains 0 = false)
theorem isDeg_true {t : Nat} (h1 : 2 ≤ t) (h2 : t ≤ 16) : isDeg (t : Int) = true := by unfold isDeg; rw [decide_eq_true (by omega), decide_eq_true (by omega)]; rfl
theorem bnode_words (t : Nat) (h1 : 2 ≤ t) (h2 : t ≤ 16) (w : World) :
    Calls Tryz.prog 141 #[.int .i64 t] w fun e w' => e = .returned (.int .i64 (6 * (t : Int))) ∧ w = w' := by
  have HG := Lib.hid (isDeg_true h1 h2 ▸ bnode_is (t : Int) w)
  go_enter Tryz.func141, Tryz.ntmps141
  go_wp2_with fail
  refine HG.out.mono ?_
  rintro e w1 ⟨rfl, rfl⟩
  go_wp2_with fail
  go_ret
  exact ⟨rfl, rfl⟩
theorem bnode_fits {w : World} {t : Nat} {n : BN} {vk vv vc : Value} (hn : BnOk t n) (hk : HRow w vk n.keys) (hv : HRow w vv n.vals) (hc : HRow w vc n.kids) :
    Calls Tryz.prog 253 #[.int .i64 t, bnV vk vv vc n.size] w fun e w' => e = .returned (.bool true) ∧ Below w.heap.size w w' := by
  obtain ⟨h1, h2, h3, h4, h5⟩ := hn
  unfold bnV
  have hcc := fun W (hW : Below w.heap.size w W) => handles_contains (hc.below hW) (by omega)
  have his := fun W => isDeg_true h1 h2 ▸ bnode_is (t : Int) W
  obtain ⟨Ak, ck, rfl, -⟩ := hk
  obtain ⟨Av, cv, rfl, -⟩ := hv
  obtain ⟨Ac, cc, rfl, -⟩ := hc
  rw [h4]
  obtain ⟨k, hkl⟩ : ∃ k, n.keys.length = k := ⟨_, rfl⟩
  rw [hkl] at h3 h5 ⊢
  generalize n.size = sz at *
  have h3' : (k : Int) ≤ 2 * (t : Int) - 1 := by omega
  have h3q : decide ((k : Int) ≤ 2 * (t : Int) - 1) = true := decide_eq_true h3'
  rcases h5 with h5 | ⟨h5, h6⟩
  · rw [h5] at hcc ⊢
    have B0 := (Below.refl w.heap.size w).alloc (Nat.le_refl _) (.cells #[.slice Ak k ck, .slice Av k cv, .slice Ac 0 cc, .int .u64 sz] 267)
    have q0 := heap_alloc_new w (.cells #[.slice Ak k ck, .slice Av k cv, .slice Ac 0 cc, .int .u64 sz] 267)
    have c0 : ((w.alloc (.cells #[.slice Ak k ck, .slice Av k cv, .slice Ac 0 cc, .int .u64 sz] 267))).cell? ⟨w.heap.size, 0, none⟩ = some (.slice Ak k ck) := by rw [cell_of_block q0]; rfl
    have c1 : ((w.alloc (.cells #[.slice Ak k ck, .slice Av k cv, .slice Ac 0 cc, .int .u64 sz] 267))).cell? ⟨w.heap.size, 1, none⟩ = some (.slice Av k cv) := by rw [cell_of_block q0]; rfl
    have c2 : ((w.alloc (.cells #[.slice Ak k ck, .slice Av k cv, .slice Ac 0 cc, .int .u64 sz] 267))).cell? ⟨w.heap.size, 2, none⟩ = some (.slice Ac 0 cc) := by rw [cell_of_block q0]; rfl
    have c3 : ((w.alloc (.cells #[.slice Ak k ck, .slice Av k cv, .slice Ac 0 cc, .int .u64 sz] 267))).cell? ⟨w.heap.size, 3, none⟩ = some (.int .u64 sz) := by rw [cell_of_block q0]; rfl
    have HG := Lib.hid (And.intro his B0)
    clear his B0 hcc q0 hkl h4 h5
    go_enter Tryz.func253, Tryz.ntmps253
    go_wp2_with fail
    refine (HG.out.1 _).mono ?_
    rintro e w1 ⟨rfl, rfl⟩
    go_wp2_with fail
    go_ret
    exact ⟨rfl, HG.out.2⟩
  · rw [h6] at hcc
    rw [h5] at hcc ⊢
    have hq : (((k + 1 : Nat) : Int) == 0) = false := by simp; omega
    have hq2 : ((k + 1 : Nat) : Int) = (k : Int) + 1 := by omega
    have hq3 : ¬ ((k : Int) + 1 = 0) := by omega
    have B0 := (Below.refl w.heap.size w).alloc (Nat.le_refl _) (.cells #[.slice Ak k ck, .slice Av k cv, .slice Ac (k + 1) cc, .int .u64 sz] 267)
    have q0 := heap_alloc_new w (.cells #[.slice Ak k ck, .slice Av k cv, .slice Ac (k + 1) cc, .int .u64 sz] 267)
    have c0 : ((w.alloc (.cells #[.slice Ak k ck, .slice Av k cv, .slice Ac (k + 1) cc, .int .u64 sz] 267))).cell? ⟨w.heap.size, 0, none⟩ = some (.slice Ak k ck) := by rw [cell_of_block q0]; rfl
    have c1 : ((w.alloc (.cells #[.slice Ak k ck, .slice Av k cv, .slice Ac (k + 1) cc, .int .u64 sz] 267))).cell? ⟨w.heap.size, 1, none⟩ = some (.slice Av k cv) := by rw [cell_of_block q0]; rfl
    have c2 : ((w.alloc (.cells #[.slice Ak k ck, .slice Av k cv, .slice Ac (k + 1) cc, .int .u64 sz] 267))).cell? ⟨w.heap.size, 2, none⟩ = some (.slice Ac (k + 1) cc) := by rw [cell_of_block q0]; rfl
    have c3 : ((w.alloc (.cells #[.slice Ak k ck, .slice Av k cv, .slice Ac (k + 1) cc, .int .u64 sz] 267))).cell? ⟨w.heap.size, 3, none⟩ = some (.int .u64 sz) := by rw [cell_of_block q0]; rfl
    have HG := Lib.hid (And.intro his (And.intro B0 hcc))
    clear his B0 hcc q0 hkl h4 h5 h6
    go_enter Tryz.func253, Tryz.ntmps253
    go_wp2_with fail
    refine (HG.out.2.2 _ HG.out.2.1).mono ?_
    rintro e w1 ⟨rfl, rfl⟩
    go_wp2_with fail
    refine (HG.out.1 _).mono ?_
    rintro e w2 ⟨rfl, rfl⟩
    go_wp2_with fail
    go_ret
    exact ⟨rfl, HG.out.2.1⟩
end Go.Proofs.YtepdkbmnkjfcpaaGreatDoor
namespace Go.Proofs.YtepdkbmnkjfcpaaGreatDoor
open Go.RowKit Go.BigFrame Go.Maps Go.WideMaps Lf
def Lf.wAt (t : Nat) (n : BN) (a b j : Nat) : Nat :=
  if j = 0 then n.keys.length else if j = 1 then n.size
  else if j < 2 + 2 * a then (if j % 2 = 0 then n.keys.getD ((j - 2) / 2) 0 else n.vals.getD ((j - 2) / 2) 0)
  else if 4 * t ≤ j ∧ j < 4 * t + b then n.kids.getD (j - 4 * t) 0 else 0
def Lf.bnWords (t : Nat) (n : BN) : List Nat := (List.range (6 * t)).map (wAt t n n.keys.length n.kids.length)
theorem bnWords_length (t : Nat) (n : BN) : (bnWords t n).length = 6 * t := by simp [bnWords]
def rowV (N : Nat) (f : Nat → Nat) : Array Value := ((List.range N).map fun j => Value.int .u64 (f j)).toArray
theorem rowV_get {N j : Nat} (f : Nat → Nat) (h : j < N) : (rowV N f)[j]? = some (.int .u64 (f j)) := by
  unfold rowV
  rw [List.getElem?_toArray, List.getElem?_map, List.getElem?_range h]
  rfl
theorem rowV_set {N i : Nat} (f : Nat → Nat) (v : Nat) : (rowV N f).setIfInBounds i (.int .u64 v) = rowV N (fun j => if j = i then v else f j) := by
  unfold rowV
  refine Array.ext_getElem? fun j => ?_
  rw [List.setIfInBounds_toArray, List.getElem?_toArray, List.getElem?_toArray]
  by_cases hj : j < N
  · by_cases e : i = j
    · subst e
      rw [List.getElem?_set_self (by simpa using hj), List.getElem?_map, List.getElem?_range hj]
      simp
    · rw [List.getElem?_set_ne e, List.getElem?_map, List.getElem?_map, List.getElem?_range hj]
      simp [show ¬ j = i from fun q => e q.symm]
  · rw [List.getElem?_eq_none (by simp; omega), List.getElem?_eq_none (by simp; omega)]
theorem rowV_congr {N : Nat} {f g : Nat → Nat} (h : ∀ j, j < N → f j = g j) : rowV N f = rowV N g := by
  unfold rowV
  congr 1
  refine List.map_congr_left fun j hj => ?_
  rw [h j (List.mem_range.1 hj)]
theorem rowV_zero (N : Nat) : ((List.replicate N 0).map fun x : Nat => Value.int .u64 x).toArray = rowV N fun _ => 0 := by
  unfold rowV
  congr 1
  refine List.ext_getElem? fun j => ?_
  by_cases hj : j < N
  · rw [List.getElem?_map, List.getElem?_map, List.getElem?_range hj, List.getElem?_replicate, if_pos hj]; rfl
  · rw [List.getElem?_eq_none (by simp; omega), List.getElem?_eq_none (by simp; omega)]
theorem all_any (A : Option Addr) (n c : Nat) (w : World) :
    Calls Tryz.prog 277 #[.slice A n c] w fun e w' => e = .returned (.func (.func 295) #[] #[PV w.heap.size]) ∧ w' = w.alloc (.cells #[.slice A n c] 163) := by
  go_enter Tryz.func277, Tryz.ntmps277
  go_wp2
  go_ret
  exact ⟨rfl, rfl⟩
structure WsAt (t : Nat) (n : BN) (a b : Nat) (w W : World) (vk vv vc : Value) : Prop where
  row : W.heap[w.heap.size + 1]? = some (.cells (rowV (6 * t) (wAt t n a b)) 42 (0, 0))
  box : W.heap[w.heap.size]? = some (.cells #[vk, vv, vc, .int .u64 n.size] 267 (0, 0))
  below : Below w.heap.size w W
theorem WsAt.two {t : Nat} {n : BN} {a b i j x y : Nat} {w W W' : World} {vk vv vc : Value} (h : WsAt t n a b w W vk vv vc) (a' b' : Nat) (hW : W'.heap = ((W.setCell ⟨w.heap.size + 1, i, none⟩ (.int .u64 x)).setCell ⟨w.heap.size + 1, j, none⟩ (.int .u64 y)).heap) (ho : W'.os = W.os) (ht : W'.tape = W.tape) (hu : W'.output = W.output)
    (hr : ∀ q, q < 6 * t → wAt t n a' b' q = if q = j then y else if q = i then x else wAt t n a b q) : WsAt t n a' b' w W' vk vv vc := by
  have hB := (h.below.setCell (p := ⟨w.heap.size + 1, i, none⟩) (Nat.le_succ _) (.int .u64 x)).setCell (p := ⟨w.heap.size + 1, j, none⟩) (Nat.le_succ _) (.int .u64 y)
  refine ⟨?_, ?_, ⟨ho.trans h.below.os, ht.trans h.below.tape, hu.trans h.below.output, by rw [hW]; exact hB.size, fun k hk => by rw [hW]; exact hB.block k hk⟩⟩
  · rw [hW, heap_setCell (heap_setCell h.row), rowV_set, rowV_set, rowV_congr hr]
  · rw [hW, heap_setCell_ne (by omega), heap_setCell_ne (by omega)]; exact h.box
theorem WsAt.one {t : Nat} {n : BN} {a b i x : Nat} {w W W' : World} {vk vv vc : Value} (h : WsAt t n a b w W vk vv vc) (a' b' : Nat) (hW : W'.heap = (W.setCell ⟨w.heap.size + 1, i, none⟩ (.int .u64 x)).heap) (ho : W'.os = W.os) (ht : W'.tape = W.tape) (hu : W'.output = W.output)
    (hr : ∀ q, q < 6 * t → wAt t n a' b' q = if q = i then x else wAt t n a b q) : WsAt t n a' b' w W' vk vv vc := by
  have hB := h.below.setCell (p := ⟨w.heap.size + 1, i, none⟩) (Nat.le_succ _) (.int .u64 x)
  refine ⟨?_, ?_, ⟨ho.trans h.below.os, ht.trans h.below.tape, hu.trans h.below.output, by rw [hW]; exact hB.size, fun k hk => by rw [hW]; exact hB.block k hk⟩⟩
  · rw [hW, heap_setCell h.row, rowV_set, rowV_congr hr]
  · rw [hW, heap_setCell_ne (by omega)]; exact h.box
theorem bnode_row {w : World} {t : Nat} {n : BN} {vk vv vc : Value} (hn : BnOk t n) (hk : HRow w vk n.keys) (hv : HRow w vv n.vals) (hc : HRow w vc n.kids) :
    Calls Tryz.prog 254 #[.int .i64 t, bnV vk vv vc n.size] w fun e w' => ∃ B, e = .returned (.func (.func 295) #[] #[PV B]) ∧ w.heap.size ≤ B ∧ w'.heap[B]? = some (.cells #[.slice (some ⟨w.heap.size + 1, 0, none⟩) (6 * t) (6 * t)] 163 (0, 0)) ∧
      w'.heap[w.heap.size + 1]? = some (.cells (rowV (6 * t) (wAt t n n.keys.length n.kids.length)) 42 (0, 0)) ∧ Below w.heap.size w w' := by
  obtain ⟨h1, h2, h3, h4, h5⟩ := hn
  unfold bnV
  have hmk := make_words (6 * t) (by omega)
  rw [rowV_zero] at hmk
  obtain ⟨Ak, ck, rfl, hk⟩ := hk
  obtain ⟨Av, cv, rfl, hv⟩ := hv
  obtain ⟨Ac, cc, rfl, hc⟩ := hc
  obtain ⟨k, hkl⟩ : ∃ k, n.keys.length = k := ⟨_, rfl⟩
  obtain ⟨c, hcl⟩ : ∃ c, n.kids.length = c := ⟨_, rfl⟩
  rw [hkl] at h3 h4 h5
  rw [hcl] at h5
  have hcb : c ≤ 2 * t := by rcases h5 with g | ⟨g, _⟩ <;> omega
  have HB := Lib.hid (And.intro hkl (And.intro h4 (And.intro hcl (And.intro hk (And.intro hv hc)))))
  rw [h4, hkl, hcl]
  clear hk hv hc hkl h4 hcl h5
  generalize hsz : n.size = sz
  have HS := Lib.hid hsz
  clear hsz
  have q0 := heap_alloc_new w (.cells #[.slice Ak k ck, .slice Av k cv, .slice Ac c cc, .int .u64 sz] 267)
  have B0 := (Below.refl w.heap.size w).alloc (Nat.le_refl _) (.cells #[.slice Ak k ck, .slice Av k cv, .slice Ac c cc, .int .u64 sz] 267)
  have z0 : (w.alloc (.cells #[.slice Ak k ck, .slice Av k cv, .slice Ac c cc, .int .u64 sz] 267)).heap.size = w.heap.size + 1 := by simp
  have q1 := heap_alloc_new (w.alloc (.cells #[.slice Ak k ck, .slice Av k cv, .slice Ac c cc, .int .u64 sz] 267)) (.cells (rowV (6 * t) fun _ => 0) 42)
  have B1 := B0.alloc B0.size (.cells (rowV (6 * t) fun _ => 0) 42)
  have q0' := (((Below.refl (w.alloc (.cells #[.slice Ak k ck, .slice Av k cv, .slice Ac c cc, .int .u64 sz] 267)).heap.size (w.alloc (.cells #[.slice Ak k ck, .slice Av k cv, .slice Ac c cc, .int .u64 sz] 267))).alloc (Nat.le_refl _) (.cells (rowV (6 * t) fun _ => 0) 42)).block w.heap.size (by omega)).trans q0
  rw [z0] at q1
  have hmk1 := hmk (w.alloc (.cells #[.slice Ak k ck, .slice Av k cv, .slice Ac c cc, .int .u64 sz] 267))
  rw [z0] at hmk1
  have hm6 : IntKind.i64.wrap (6 * (t : Int)) = 6 * (t : Int) := IntWalk.i64_in _ (by omega)
  have hcast : ((6 * t : Nat) : Int) = 6 * (t : Int) := by omega
  rw [hcast] at hmk1
  have hq0 : (0 : Int) < 6 * (t : Int) := by omega
  have hq1 : (1 : Int) < 6 * (t : Int) := by omega
  clear hmk q0 B0
  go_enter Tryz.func254, Tryz.ntmps254
  go_wp2_with fail
  clear hmk1
  generalize hW1 : (w.alloc (.cells #[.slice Ak k ck, .slice Av k cv, .slice Ac c cc, .int .u64 sz] 267)).alloc (.cells (rowV (6 * t) fun _ => 0) 42) = W1 at *
  have c0 : (W1).cell? ⟨w.heap.size, 0, none⟩ = some (.slice Ak k ck) := by rw [cell_of_block q0']; rfl
  have c1 : (W1).cell? ⟨w.heap.size, 1, none⟩ = some (.slice Av k cv) := by rw [cell_of_block q0']; rfl
  have c2 : (W1).cell? ⟨w.heap.size, 2, none⟩ = some (.slice Ac c cc) := by rw [cell_of_block q0']; rfl
  have c3 : (W1).cell? ⟨w.heap.size, 3, none⟩ = some (.int .u64 sz) := by rw [cell_of_block q0']; rfl
  have r0 : W1.cell? ⟨w.heap.size + 1, 0, none⟩ = some (.int .u64 0) := by rw [cell_of_block q1, rowV_get _ (by omega)]; rfl
  have r1 : W1.cell? ⟨w.heap.size + 1, 1, none⟩ = some (.int .u64 0) := by rw [cell_of_block q1, rowV_get _ (by omega)]; rfl
  have f0 : W1.frozen? ⟨w.heap.size + 1, 0, none⟩ = false := frozen_of_block q1
  have f1 : W1.frozen? ⟨w.heap.size + 1, 1, none⟩ = false := frozen_of_block q1
  have hne : ¬ (w.heap.size = w.heap.size + 1) := by omega
  go_region
  go_wp2_with fail
  go_name_world W HW
  have hW : WsAt t n 0 0 w W (.slice Ak k ck) (.slice Av k cv) (.slice Ac c cc) := by
    refine ⟨?_, ?_, ?_⟩
    · rw [← HW]
      show ((W1.setCell ⟨w.heap.size + 1, 0, none⟩ (.int .u64 k)).setCell ⟨w.heap.size + 1, 1, none⟩ (.int .u64 sz)).heap[w.heap.size + 1]? = _
      rw [heap_setCell (heap_setCell q1), rowV_set, rowV_set]
      congr 2
      refine rowV_congr fun q hq => ?_
      unfold wAt
      rw [HB.out.1, HS.out]
      by_cases e1 : q = 1
      · rw [if_pos e1, if_neg (by omega), if_pos e1]
      · rw [if_neg e1]
        by_cases e0 : q = 0
        · rw [if_pos e0, if_pos e0]
        · rw [if_neg e0, if_neg e0, if_neg e1, if_neg (by omega), if_neg (by omega)]
    · rw [← HW]
      show ((W1.setCell ⟨w.heap.size + 1, 0, none⟩ (.int .u64 k)).setCell ⟨w.heap.size + 1, 1, none⟩ (.int .u64 sz)).heap[w.heap.size]? = _
      rw [heap_setCell_ne (by omega), heap_setCell_ne (by omega), HS.out]; exact q0'
    · rw [← HW]
      have h := (B1.setCell (p := ⟨w.heap.size + 1, 0, none⟩) (Nat.le_succ _) (.int .u64 k)).setCell (p := ⟨w.heap.size + 1, 1, none⟩) (Nat.le_succ _) (.int .u64 sz)
      exact ⟨h.os, h.tape, h.output, h.size, h.block⟩
  clear HW
  have HA := Lib.hid hW
  clear hW r0 r1 f0 f1 hne c0 c1 c2 c3 q0' q1 hW1 B1
  go_loopw [6, 25] (fun _ i wr => ∃ j : Nat, j ≤ k ∧ i = .int .i64 j ∧ WsAt t n j 0 w wr (.slice Ak k ck) (.slice Av k cv) (.slice Ac c cc)) (fun _ i _ => k - (intOf i).toNat)
  case atStart => exact ⟨0, by omega, rfl, HA.out⟩
  case round =>
    obtain ⟨j, hj, rfl, hA⟩ := hrel
    by_cases hlt : j < k
    · have hlt' : (j : Int) < k := by omega
      have hbox := hA.box
      rw [HS.out] at hbox
      have c0 : (wr).cell? ⟨w.heap.size, 0, none⟩ = some (.slice Ak k ck) := by rw [cell_of_block hbox]; rfl
      have c1 : (wr).cell? ⟨w.heap.size, 1, none⟩ = some (.slice Av k cv) := by rw [cell_of_block hbox]; rfl
      have c2 : (wr).cell? ⟨w.heap.size, 2, none⟩ = some (.slice Ac c cc) := by rw [cell_of_block hbox]; rfl
      have c3 : (wr).cell? ⟨w.heap.size, 3, none⟩ = some (.int .u64 sz) := by rw [cell_of_block hbox]; rfl
      have ik : j < n.keys.length := by rw [HB.out.1]; exact hlt
      have iv : j < n.vals.length := by rw [HB.out.2.1]; exact hlt
      obtain ⟨gk, ok, rfl, hck⟩ := HB.out.2.2.2.1 j ik
      obtain ⟨gv, ov, rfl, hcv⟩ := HB.out.2.2.2.2.1 j iv
      have lk := hcell_lt hck
      have lv := hcell_lt hcv
      have dk := (hA.below.cell (p := ⟨gk, ok + j, none⟩) lk).trans hck
      have dv := (hA.below.cell (p := ⟨gv, ov + j, none⟩) lv).trans hcv
      obtain ⟨xk, hxk⟩ : ∃ x, n.keys[j] = x := ⟨_, rfl⟩
      obtain ⟨xv, hxv⟩ : ∃ x, n.vals[j] = x := ⟨_, rfl⟩
      rw [hxk] at dk
      rw [hxv] at dv
      have hgk : n.keys.getD j 0 = xk := by rw [List.getD_eq_getElem?_getD, List.getElem?_eq_getElem ik, ← hxk]; rfl
      have hgv : n.vals.getD j 0 = xv := by rw [List.getD_eq_getElem?_getD, List.getElem?_eq_getElem iv, ← hxv]; rfl
      have z2 : ∀ q, 2 + 2 * j ≤ q → q < 4 * t → wAt t n j 0 q = 0 := fun q h1 h2 => by
        unfold wAt
        rw [if_neg (by omega), if_neg (by omega), if_neg (by omega), if_neg (by omega)]
      have r0 : wr.cell? ⟨w.heap.size + 1, 2 + 2 * j, none⟩ = some (.int .u64 0) := by
        rw [cell_of_block hA.row, rowV_get _ (by omega), z2 _ (by omega) (by omega)]; rfl
      have r1 : wr.cell? ⟨w.heap.size + 1, 2 + 2 * j + 1, none⟩ = some (.int .u64 0) := by
        rw [cell_of_block hA.row, rowV_get _ (by omega), z2 _ (by omega) (by omega)]; rfl
      have f0 : wr.frozen? ⟨w.heap.size + 1, 2 + 2 * j, none⟩ = false := frozen_of_block hA.row
      have f1 : wr.frozen? ⟨w.heap.size + 1, 2 + 2 * j + 1, none⟩ = false := frozen_of_block hA.row
      have n1 : ¬ (w.heap.size = w.heap.size + 1) := by omega
      have n2 : ¬ (gk = w.heap.size + 1) := by omega
      have n3 : ¬ (gv = w.heap.size + 1) := by omega
      have hb1 : 2 + 2 * (j : Int) < 6 * (t : Int) := by omega
      have hb2 : 2 + 2 * (j : Int) + 1 < 6 * (t : Int) := by omega
      have HK := Lib.hid (And.intro hA (And.intro hgk (And.intro hgv hlt)))
      clear hA hbox hck hcv z2 hxk hxv hgk hgv lk lv
      go_wp2_with fail
      go_region
      have HN := fun W' h1 h2 h3 h4 => HK.out.1.two (i := 2 + 2 * j) (j := 2 + 2 * j + 1) (x := xk) (y := xv) (W' := W') (j + 1) 0 h1 h2 h3 h4 (fun q hq => by
        unfold wAt
        by_cases e1 : q = 2 + 2 * j + 1
        · rw [if_pos e1, if_neg (by omega), if_neg (by omega), if_pos (by omega), if_neg (by omega), show (q - 2) / 2 = j by omega]; exact HK.out.2.2.1
        · rw [if_neg e1]
          by_cases e0 : q = 2 + 2 * j
          · rw [if_pos e0, if_neg (by omega), if_neg (by omega), if_pos (by omega), if_pos (by omega), show (q - 2) / 2 = j by omega]; exact HK.out.2.1
          · rw [if_neg e0]
            by_cases g0 : q = 0
            · rw [if_pos g0, if_pos g0]
            · rw [if_neg g0, if_neg g0]
              by_cases g1 : q = 1
              · rw [if_pos g1, if_pos g1]
              · rw [if_neg g1, if_neg g1]
                by_cases g2 : q < 2 + 2 * j
                · rw [if_pos (by omega), if_pos g2]
                · rw [if_neg (by omega), if_neg g2])
      have HN' := Lib.hid HN
      clear HN r0 r1 f0 f1 n1 n2 n3 c0 c1 c2 c3 dk dv
      go_wp2_with fail
      go_roundw
      case rel => exact ⟨j + 1, HK.out.2.2.2, by simp, HN'.out _ rfl rfl rfl rfl⟩
      case measure => have := HK.out.2.2.2; simp [intOf]; omega
    · obtain rfl : j = k := by omega
      have hbox := hA.box
      rw [HS.out] at hbox
      have c0 : (wr).cell? ⟨w.heap.size, 0, none⟩ = some (.slice Ak j ck) := by rw [cell_of_block hbox]; rfl
      have c1 : (wr).cell? ⟨w.heap.size, 1, none⟩ = some (.slice Av j cv) := by rw [cell_of_block hbox]; rfl
      have c2 : (wr).cell? ⟨w.heap.size, 2, none⟩ = some (.slice Ac c cc) := by rw [cell_of_block hbox]; rfl
      have c3 : (wr).cell? ⟨w.heap.size, 3, none⟩ = some (.int .u64 sz) := by rw [cell_of_block hbox]; rfl
      have HK := Lib.hid hA
      clear hA hbox
      go_wp2_with fail
      clear c0 c1 c2 c3
      go_loopw [7, 8, 53] (fun _ _ i wr => ∃ q : Nat, q ≤ c ∧ i = .int .i64 q ∧ WsAt t n j q w wr (.slice Ak j ck) (.slice Av j cv) (.slice Ac c cc)) (fun _ _ i _ => c - (intOf i).toNat)
      case atStart => exact ⟨0, by omega, rfl, HK.out⟩
      case round =>
        obtain ⟨q, hq, rfl, hA⟩ := hrel
        by_cases hlt : q < c
        · have hlt' : (q : Int) < c := by omega
          have ik : q < n.kids.length := by rw [HB.out.2.2.1]; exact hlt
          obtain ⟨gk, ok, rfl, hck⟩ := HB.out.2.2.2.2.2 q ik
          have lk := hcell_lt hck
          have dk := (hA.below.cell (p := ⟨gk, ok + q, none⟩) lk).trans hck
          obtain ⟨xk, hxk⟩ : ∃ x, n.kids[q] = x := ⟨_, rfl⟩
          rw [hxk] at dk
          have hgk : n.kids.getD q 0 = xk := by rw [List.getD_eq_getElem?_getD, List.getElem?_eq_getElem ik, ← hxk]; rfl
          have r0 : wr.cell? ⟨w.heap.size + 1, 4 * t + q, none⟩ = some (.int .u64 0) := by
            rw [cell_of_block hA.row, rowV_get _ (by omega)]
            unfold wAt
            rw [if_neg (by omega), if_neg (by omega), if_neg (by omega), if_neg (by omega)]; rfl
          have f0 : wr.frozen? ⟨w.heap.size + 1, 4 * t + q, none⟩ = false := frozen_of_block hA.row
          have hb1 : 4 * (t : Int) + q < 6 * (t : Int) := by omega
          have HK2 := Lib.hid (And.intro hA (And.intro hgk hlt))
          clear hA hck hxk hgk lk
          go_wp2_with fail
          have HN := fun W' h1 h2 h3 h4 => HK2.out.1.one (i := 4 * t + q) (x := xk) (W' := W') j (q + 1) h1 h2 h3 h4 (fun p hp => by
            unfold wAt
            by_cases e1 : p = 4 * t + q
            · rw [if_pos e1, if_neg (by omega), if_neg (by omega), if_neg (by omega), if_pos (by omega), show p - 4 * t = q by omega]; exact HK2.out.2.1
            · rw [if_neg e1]
              by_cases g0 : p = 0
              · rw [if_pos g0, if_pos g0]
              · rw [if_neg g0, if_neg g0]
                by_cases g1 : p = 1
                · rw [if_pos g1, if_pos g1]
                · rw [if_neg g1, if_neg g1]
                  by_cases g2 : p < 2 + 2 * j
                  · rw [if_pos g2, if_pos g2]
                  · rw [if_neg g2, if_neg g2]
                    by_cases g3 : 4 * t ≤ p ∧ p < 4 * t + q
                    · rw [if_pos (by omega), if_pos g3]
                    · rw [if_neg (by omega), if_neg g3])
          have HN' := Lib.hid HN
          clear HN r0 f0 dk
          go_roundw
          case rel => exact ⟨q + 1, HK2.out.2.2, by simp, HN'.out _ rfl rfl rfl rfl⟩
          case measure => have := HK2.out.2.2; simp [intOf]; omega
        · obtain rfl : q = c := by omega
          have HK2 := Lib.hid hA
          clear hA
          go_wp2_with fail
          refine (all_any _ _ _ wr).mono ?_
          rintro e w2 ⟨rfl, rfl⟩
          go_wp2_with fail
          go_ret
          have hA := HK2.out
          have hB := (Below.refl wr.heap.size wr).alloc (Nat.le_refl _) (.cells #[.slice (some ⟨w.heap.size + 1, 0, none⟩) (6 * t) (6 * t)] 163)
          refine ⟨_, rfl, hA.below.size, heap_alloc_new _ _, ?_, hA.below.trans (hB.mono hA.below.size)⟩
          exact (hB.block _ (Array.getElem?_eq_some_iff.1 hA.row).1).trans hA.row
end Go.Proofs.YtepdkbmnkjfcpaaGreatDoor
namespace Go.Proofs.YtepdkbmnkjfcpaaGreatDoor
open Lf Tr
structure BnAt (S : St) (t h : Nat) (n : BN) : Prop where
  ok : BnOk t n
  lt : h < 18446744073709551616
  len : S.len h = (6 * t, 0)
  get : ∀ k, k < 6 * t → S.get h k = (wAt t n n.keys.length n.kids.length k, 0)
  words : ∀ v ∈ bnWords t n, v < 18446744073709551616
theorem bnAt_of {S : St} {o : Nat → Nat} (hf : Fit S o) {t h : Nat} {n : BN} (hl : reco S h = some (bnWords t n)) (hn : BnOk t n) : BnAt S t h n := by
  have h1 := look_len hf.tab hl
  have h2 := look_ok hf hl
  rw [bnWords_length] at h1
  refine ⟨hn, h2.2.1, h1, fun k hk => ?_, h2.2.2.2⟩
  rw [look_get hf hl (by rw [bnWords_length]; exact hk)]
  unfold bnWords
  rw [List.getD_eq_getElem?_getD, List.getElem?_map, List.getElem?_range hk]
  rfl
structure BnLt (n : BN) : Prop where
  keys : ∀ v ∈ n.keys, v < 18446744073709551616
  vals : ∀ v ∈ n.vals, v < 18446744073709551616
  kids : ∀ v ∈ n.kids, v < 18446744073709551616
  size : n.size < 18446744073709551616
theorem getD_lt {l : List Nat} (h : ∀ v ∈ l, v < 18446744073709551616) (k : Nat) : l.getD k 0 < 18446744073709551616 := by
  rw [List.getD_eq_getElem?_getD]
  by_cases hk : k < l.length
  · rw [List.getElem?_eq_getElem hk]; exact h _ (List.getElem_mem hk)
  · rw [List.getElem?_eq_none (by omega)]; decide
theorem bnWords_lt {t : Nat} {n : BN} (h : BnLt n) (hk : n.keys.length < 18446744073709551616) : ∀ v ∈ bnWords t n, v < 18446744073709551616 := by
  intro v hv
  unfold bnWords at hv
  obtain ⟨j, _, rfl⟩ := List.mem_map.1 hv
  have h1 := getD_lt h.keys ((j - 2) / 2)
  have h2 := getD_lt h.vals ((j - 2) / 2)
  have h3 := getD_lt h.kids (j - 4 * t)
  have h4 := h.size
  unfold wAt
  repeat (first | split | omega)
namespace Bt
def bn {d : Nat} (x : Bt (d + 1)) : BN := ⟨(Bn.es x).map (·.kh), (Bn.es x).map (·.vh), (Bn.ks x).map hd, (its x).length⟩
def At (S : St) (t : Nat) : {d : Nat} → Bt d → Prop
  | 0, x => nomatch x
  | _ + 1, x => reco S (Bn.h x) = some (bnWords t (bn x)) ∧ ∀ k ∈ Bn.ks x, At S t k
theorem At.hd_ok {S : St} {o : Nat → Nat} (hf : Fit S o) {t : Nat} : ∀ {d : Nat} {x : Bt d}, At S t x → hd x ≠ 0 ∧ hd x < 18446744073709551616
  | 0, x, _ => nomatch x
  | d + 1, x, h => by
    have := look_ok hf h.1
    refine ⟨fun e => ?_, this.2.1⟩
    have e : Bn.h x = 0 := e
    have := this.1
    omega
theorem At.bnok {S : St} {o : Nat → Nat} (hf : Fit S o) {t : Nat} (t1 : 2 ≤ t) (t2 : t ≤ 16) {d : Nat} {x : Bt (d + 1)} (h : At S t x) (ok : Ok t x) : BnOk t (bn x) := by
  refine ⟨t1, t2, by unfold bn; rw [List.length_map]; exact ok.1, by unfold bn; rw [List.length_map, List.length_map], ?_⟩
  have hk := ok.2.1
  unfold bn
  simp only [List.length_map]
  by_cases hd0 : d = 0
  · rw [if_pos hd0] at hk; exact Or.inl hk
  · rw [if_neg hd0] at hk
    refine Or.inr ⟨hk, ?_⟩
    rw [Bool.eq_false_iff]
    intro hc
    obtain ⟨k, hkm, e⟩ := List.mem_map.1 (List.contains_iff_mem.1 hc)
    exact (At.hd_ok hf (h.2 k hkm)).1 e
theorem At.read {S : St} {o : Nat → Nat} (hf : Fit S o) {t : Nat} (t1 : 2 ≤ t) (t2 : t ≤ 16) {d : Nat} {x : Bt (d + 1)} (h : At S t x) (ok : Ok t x) : BnAt S t (hd x) (bn x) := bnAt_of hf h.1 (h.bnok hf t1 t2 ok)
theorem At.frame {S S' : St} {t : Nat} : ∀ {d : Nat} {x : Bt d}, At S t x → (∀ h ∈ nodes x, reco S' h = reco S h) → At S' t x
  | 0, x, _, _ => nomatch x
  | d + 1, x, h, hf => by
    refine ⟨(hf _ (List.mem_cons_self ..)).trans h.1, fun k hk => (h.2 k hk).frame fun y hy => hf y (List.mem_cons_of_mem _ ?_)⟩
    exact List.mem_flatten.2 ⟨_, List.mem_map.2 ⟨k, hk, rfl⟩, hy⟩
theorem mem_nodes_kid {d : Nat} {x : Bt (d + 1)} {k : Bt d} (hk : k ∈ Bn.ks x) {y : Nat} (hy : y ∈ nodes k) : y ∈ nodes x := List.mem_cons_of_mem _ (List.mem_flatten.2 ⟨_, List.mem_map.2 ⟨k, hk, rfl⟩, hy⟩)
theorem hd_mem : ∀ {d : Nat} (x : Bt d), hd x ∈ nodes x
  | 0, x => nomatch x
  | _ + 1, _ => List.mem_cons_self ..
theorem At.rec {S : St} {t : Nat} : ∀ {d : Nat} {x : Bt d}, At S t x → ∀ h ∈ nodes x, ∃ n, reco S h = some (bnWords t n)
  | 0, x, _, _, _ => nomatch x
  | d + 1, x, h, y, hy => by
    rcases List.mem_cons.1 hy with rfl | hy
    · exact ⟨_, h.1⟩
    · obtain ⟨l, hl, hy⟩ := List.mem_flatten.1 hy
      obtain ⟨k, hk, rfl⟩ := List.mem_map.1 hl
      exact (h.2 k hk).rec y hy
theorem bnLt_of {S : St} {o : Nat → Nat} (hf : Fit S o) {t d : Nat} {x : Bt (d + 1)} (hb : ∀ e ∈ Bn.es x, e.kh < 18446744073709551616 ∧ e.vh < 18446744073709551616) (hk : ∀ k ∈ Bn.ks x, At S t k) (hl : (its x).length < 18446744073709551616) : BnLt (bn x) := by
  refine ⟨fun v hv => ?_, fun v hv => ?_, fun v hv => ?_, hl⟩
  · obtain ⟨e, he, rfl⟩ := List.mem_map.1 hv; exact (hb e he).1
  · obtain ⟨e, he, rfl⟩ := List.mem_map.1 hv; exact (hb e he).2
  · obtain ⟨k, hk1, rfl⟩ := List.mem_map.1 hv; exact (At.hd_ok hf (hk k hk1)).2
theorem blobs_lt {S : St} {o : Nat → Nat} (hf : Fit S o) {e : It} (h : Blobs S e) : e.kh < 18446744073709551616 ∧ e.vh < 18446744073709551616 := ⟨(look_ok hf h.k).2.1, (look_ok hf h.v).2.1⟩
theorem es_its {d : Nat} {x : Bt (d + 1)} {t : Nat} (h : OkN t x) {e : It} (he : e ∈ Bn.es x) : e ∈ its x := by
  rw [its_mk]
  refine (sub_weave _ _ ?_).subset he
  rcases h.rows with ⟨h0, _⟩ | ⟨h0, _⟩
  · exact Or.inl h0
  · exact Or.inr h0
theorem mem_weave_kid : ∀ (es : List It) (ks : List (List It)), (ks = [] ∨ ks.length = es.length + 1) → ∀ k ∈ ks, ∀ e ∈ k, e ∈ weave es ks
  | _, [], _, k, hk, _, _ => by cases hk
  | [], [a], _, k, hk, e, he => by
    rcases List.mem_cons.1 hk with rfl | hk
    · exact he
    · cases hk
  | [], _ :: _ :: _, h, _, _, _, _ => by simp at h
  | f :: es, a :: ks, h, k, hk, e, he => by
    rw [weave]
    rcases List.mem_cons.1 hk with rfl | hk
    · exact List.mem_append_left _ he
    · exact List.mem_append_right _ (List.mem_cons_of_mem _ (mem_weave_kid es ks (Or.inr (by simpa using h)) k hk e he))
theorem kid_its {d : Nat} {x : Bt (d + 1)} {t : Nat} (h : OkN t x) {k : Bt d} (hk : k ∈ Bn.ks x) {e : It} (he : e ∈ its k) : e ∈ its x := by
  rw [its_mk]
  refine mem_weave_kid _ _ ?_ (its k) (List.mem_map.2 ⟨k, hk, rfl⟩) e he
  rcases h.rows with ⟨h0, _⟩ | ⟨h0, _⟩
  · exact Or.inl h0
  · exact Or.inr h0
def fullB (t : Nat) (key : List UInt8) : {d : Nat} → Bt d → List Bool
  | 0, x => nomatch x
  | _ + 1, x => decide ((Bn.es x).length = 2 * t - 1) :: (match (Bn.ks x)[belowB key (Bn.es x)]? with | none => [] | some k => fullB t key k)
def trail : List Bool → Nat
  | [] => 0
  | b :: r => if r.all id = true then (if b = true then r.length + 1 else r.length) else trail r
def needB : Nat → Bool → List Bool → Nat
  | full, all, [] => full + if all = true then 1 else 0
  | full, all, b :: r => if b = true then needB (full + 1) all r else needB 0 false r
theorem trail_all : ∀ {r : List Bool}, r.all id = true → trail r = r.length
  | [], _ => rfl
  | b :: r, h => by
    simp only [List.all_cons, Bool.and_eq_true, id] at h
    unfold trail
    rw [if_pos h.2, if_pos h.1]
    rfl
theorem need_eq : ∀ (p : List Bool) (full : Nat) (all : Bool), needB full all p = if p.all id = true then full + p.length + (if all = true then 1 else 0) else trail p
  | [], full, all => by unfold needB; simp
  | b :: r, full, all => by
    unfold needB trail
    cases b with
    | true =>
      rw [if_pos rfl, need_eq r]
      simp only [List.all_cons, id, Bool.true_and, List.length_cons]
      by_cases h : r.all id = true
      · rw [if_pos h, if_pos h]; omega
      · rw [if_neg h, if_neg h, if_neg h]
    | false =>
      rw [if_neg (by simp), need_eq r]
      simp only [List.all_cons, id, Bool.false_and]
      by_cases h : r.all id = true
      · rw [if_pos h, if_neg (by simp), if_pos h, if_neg (by simp)]; simp
      · rw [if_neg h, if_neg (by simp), if_neg h]
theorem need_zero (p : List Bool) : needB 0 true p = trail p + if p.all id = true then 1 else 0 := by
  rw [need_eq]
  by_cases h : p.all id = true
  · rw [if_pos h, if_pos h, trail_all h]; simp
  · rw [if_neg h, if_neg h]; rfl
end Bt
end Go.Proofs.YtepdkbmnkjfcpaaGreatDoor
