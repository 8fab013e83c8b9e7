/- B-trees: down, Find, Rank: the walks. -/
import Derived.Test.YtepdkbmnkjfcpaaGreatDoorVba
import Derived.Test.YtepdkbmnkjfcpaaGreatDoorVal
set_option maxRecDepth 100000
set_option maxHeartbeats 6400000
namespace Go.Proofs.YtepdkbmnkjfcpaaGreatDoor
open Go.RowKit Go.BigFrame Go.Maps Go.WideMaps Lf Tr
structure Bt.Walk (S : St) (o : Nat → Nat) (t : Nat) {d : Nat} (x : Bt d) : Prop where
  fit : Fit S o
  t1 : 2 ≤ t
  t2 : t ≤ 16
  at' : Bt.At S t x
  ok : Bt.Ok t x
  sorted : (Bt.its x).Pairwise klt
  keys : KeysAt S (Bt.its x)
  few : (Bt.its x).length < 1000000
theorem Bt.Walk.kid {S : St} {o : Nat → Nat} {t d : Nat} {x : Bt (d + 1)} (h : Walk S o t x) {k : Bt d} (hk : k ∈ Bn.ks x) : Walk S o t k := by
  have hk2 : ∀ e ∈ its k, e ∈ its x := fun e he => kid_its h.ok.okN hk he
  have hsub : (its k).Sublist (its x) := by
    rw [its_mk]
    have hr := h.ok.okN.rows
    obtain ⟨i, hi, rfl⟩ := List.mem_iff_getElem.1 hk
    rcases hr with ⟨h0, _⟩ | ⟨h0, _⟩
    · have : ((Bn.ks x).map its).length = 0 := by rw [h0]; rfl
      rw [List.length_map] at this
      omega
    · have hi2 : i ≤ (Bn.es x).length := by rw [List.length_map] at h0; omega
      rw [weave_kid hi2 h0, getD_its hi]
      exact (List.sublist_append_left _ _).trans (List.sublist_append_right _ _)
  exact ⟨h.fit, h.t1, h.t2, h.at'.2 k hk, (h.ok.2.2 k hk).1, h.sorted.sublist hsub, ⟨fun e he => h.keys.lt e (hk2 e he), fun e he => h.keys.get e (hk2 e he)⟩, Nat.lt_of_le_of_lt hsub.length_le h.few⟩
theorem Bt.Walk.es {S : St} {o : Nat → Nat} {t d : Nat} {x : Bt (d + 1)} (h : Walk S o t x) : (Bn.es x).Pairwise klt ∧ KeysAt S (Bn.es x) ∧ (Bn.es x).length ≤ 31 := by
  have hs : (Bn.es x).Sublist (its x) := by
    rw [its_mk]
    refine sub_weave _ _ ?_
    rcases h.ok.okN.rows with ⟨h0, _⟩ | ⟨h0, _⟩
    · exact Or.inl h0
    · exact Or.inr h0
  exact ⟨h.sorted.sublist hs, ⟨fun e he => h.keys.lt e (hs.subset he), fun e he => h.keys.get e (hs.subset he)⟩, by have := h.ok.1; have := h.t2; omega⟩
theorem Bt.Walk.read {S : St} {o : Nat → Nat} {t d : Nat} {x : Bt (d + 1)} (h : Walk S o t x) : BnAt S t (hd x) (bn x) := h.at'.read h.fit h.t1 h.t2 h.ok
theorem Bt.Walk.size {S : St} {o : Nat → Nat} {t d : Nat} {x : Bt (d + 1)} (h : Walk S o t x) : (bn x).size = (its x).length ∧ (bn x).size < 4611686018427387904 := ⟨rfl, by have := h.few; show (its x).length < _; omega⟩
theorem HRow.at {α : Type} {W : World} {A : Option Addr} {n c k : Nat} {l : List α} {f : α → Nat} {e : α} (h : HRow W (.slice A n c) (l.map f)) (he : l[k]? = some e) : ∃ g o, A = some ⟨g, o, none⟩ ∧ W.cell? ⟨g, o + k, none⟩ = some (.int .u64 (f e : Nat)) := by
  obtain ⟨A', c', e1, hc⟩ := h
  obtain ⟨hk, he⟩ := List.getElem?_eq_some_iff.1 he
  obtain ⟨g, o, e2, hc2⟩ := hc k (by rw [List.length_map]; exact hk)
  rw [List.getElem_map, he] at hc2
  have e1 : A = A' := by injection e1
  exact ⟨g, o, e1.trans e2, hc2⟩
def itO : Option It → Value
  | some e => itV e.kh e.vh
  | none => itV 0 0
theorem hereB_true {key : List UInt8} {es : List It} (h : hereB key es = true) : ∃ hk : belowB key es < es.length, (es[belowB key es]).k = key := by
  unfold hereB at h
  split at h
  · rename_i e he
    obtain ⟨hk, he⟩ := List.getElem?_eq_some_iff.1 he
    exact ⟨hk, by rw [he]; exact of_decide_eq_true h⟩
  · cases h
theorem hereB_false {key : List UInt8} {es : List It} (h : hereB key es = false) : ∀ hk : belowB key es < es.length, (es[belowB key es]).k ≠ key := by
  intro hk e
  unfold hereB at h
  rw [List.getElem?_eq_getElem hk] at h
  simp only [decide_eq_false_iff_not] at h
  exact h e
def sumK {d : Nat} (x : Bt (d + 1)) (j : Nat) : Nat := (((Bn.ks x).take j).map fun k => (Bt.its k).length).sum
theorem sumK_succ {d : Nat} {x : Bt (d + 1)} {j : Nat} (h : j < (Bn.ks x).length) : sumK x (j + 1) = sumK x j + (Bt.its (Bn.ks x)[j]).length := by
  unfold sumK
  rw [List.take_succ_eq_append_getElem h, List.map_append, List.sum_append]
  simp
theorem sumK_le {S : St} {o : Nat → Nat} {t d : Nat} {x : Bt (d + 1)} (h : Bt.Walk S o t x) (j : Nat) : (Bn.es x).length + sumK x j ≤ (Bt.its x).length := by
  rw [Bt.its_length h.ok.okN]
  refine Nat.add_le_add_left ?_ _
  unfold sumK
  conv => rhs; rw [← List.take_append_drop j (Bn.ks x), List.map_append, List.sum_append]
  omega
theorem below_le {key : List UInt8} (l : List It) : belowB key l ≤ l.length := List.countP_le_length
theorem Bt.Walk.leaf {S : St} {o : Nat → Nat} {t : Nat} {x : Bt 1} (h : Walk S o t x) (key : List UInt8) : belowB key (its x) = belowB key (Bn.es x) ∧ findB key (its x) = if hereB key (Bn.es x) = true then (Bn.es x)[belowB key (Bn.es x)]? else none := by
  have hs := h.es.1
  rw [its_leaf]
  refine ⟨rfl, ?_⟩
  cases hh : hereB key (Bn.es x) with
  | true =>
    obtain ⟨hk, he⟩ := hereB_true hh
    rw [if_pos rfl, leaf_here hs hk he, List.getElem?_eq_getElem hk]
  | false => rw [if_neg (by simp)]; exact findB_none (leaf_find hs (hereB_false hh))
theorem Bt.Walk.ord {S : St} {o : Nat → Nat} {t d : Nat} {x : Bt (d + 2)} (h : Walk S o t x) (key : List UInt8) : Ord key (Bn.es x) ((Bn.ks x).map its) := ord_of h.ok.rows (by rw [← its_mk]; exact h.sorted)
theorem Bt.Walk.klen {S : St} {o : Nat → Nat} {t d : Nat} {x : Bt (d + 2)} (h : Walk S o t x) (key : List UInt8) : belowB key (Bn.es x) < (Bn.ks x).length := by have := Ok.kids h.ok; have := below_le (key := key) (Bn.es x); omega
theorem Bt.Walk.inner {S : St} {o : Nat → Nat} {t d : Nat} {x : Bt (d + 2)} (h : Walk S o t x) (key : List UInt8) (hk : belowB key (Bn.es x) < (Bn.ks x).length) :
    (hereB key (Bn.es x) = true → belowB key (its x) = belowB key (Bn.es x) + sumK x (belowB key (Bn.es x)) + (its (Bn.ks x)[belowB key (Bn.es x)]).length ∧ findB key (its x) = (Bn.es x)[belowB key (Bn.es x)]?) ∧
    (hereB key (Bn.es x) = false → belowB key (its x) = belowB key (Bn.es x) + sumK x (belowB key (Bn.es x)) + belowB key (its (Bn.ks x)[belowB key (Bn.es x)]) ∧ findB key (its x) = findB key (its (Bn.ks x)[belowB key (Bn.es x)])) := by
  have ho := h.ord key
  have hb := ho.below
  rw [← its_mk, getD_its hk] at hb
  have hsum : ((((Bn.ks x).map its).take (belowB key (Bn.es x))).map List.length).sum = sumK x (belowB key (Bn.es x)) := by
    unfold sumK
    rw [← List.map_take, List.map_map]
    rfl
  rw [hsum] at hb
  refine ⟨fun hh => ?_, fun hh => ?_⟩
  · obtain ⟨hk2, he⟩ := hereB_true hh
    obtain ⟨h1, h2⟩ := ho.here hk2 he
    rw [getD_its hk] at h2
    rw [its_mk, h1, List.getElem?_eq_getElem hk2, ← its_mk]
    exact ⟨by rw [hb, h2], rfl⟩
  · have := ho.down (hereB_false hh)
    rw [getD_its hk, ← its_mk] at this
    exact ⟨hb, this⟩
theorem Bt.Walk.inner' {S : St} {o : Nat → Nat} {t d : Nat} {x : Bt (d + 2)} (h : Walk S o t x) (key : List UInt8) {k : Nat} (hb : belowB key (Bn.es x) = k) (hk : k < (Bn.ks x).length) :
    (hereB key (Bn.es x) = true → belowB key (its x) = k + sumK x k + (its (Bn.ks x)[k]).length ∧ findB key (its x) = (Bn.es x)[k]?) ∧
    (hereB key (Bn.es x) = false → belowB key (its x) = k + sumK x k + belowB key (its (Bn.ks x)[k]) ∧ findB key (its x) = findB key (its (Bn.ks x)[k])) := by
  subst hb
  exact h.inner key hk
theorem but_class (W1 : World) (b : Nat) : ∃ I : World → Prop, (∀ w', I w' → ∀ k, k < W1.heap.size → k ≠ b → w'.heap[k]? = W1.heap[k]?) ∧ (∀ w', (∀ k, k < W1.heap.size → k ≠ b → w'.heap[k]? = W1.heap[k]?) → I w') := ⟨fun w' => ∀ k, k < W1.heap.size → k ≠ b → w'.heap[k]? = W1.heap[k]?, fun _ h => h, fun _ h => h⟩
theorem cell_of_same {w w' : World} {g o : Nat} (h : w'.heap[g]? = w.heap[g]?) : w'.cell? ⟨g, o, none⟩ = w.cell? ⟨g, o, none⟩ := World.cell?_of_block h
theorem bt_down {w : World} {ps : Nat} {S : St} {o : Nat → Nat} {Y : Nat → Prop} (h : StOn w ps S Y) {t d : Nat} {x : Bt (d + 1)} (hx : Bt.Walk S o t x) (hd : d < 40) (key : List UInt8) :
    Calls Tryz.prog 225 #[trB ps t, .int .u64 (Bt.hd x : Nat), SV key] w fun e w' => e = .returned (.tuple #[itO (Bt.findB key (Bt.its x)), .bool (Bt.findB key (Bt.its x)).isSome, .int .i64 (belowB key (Bt.its x) : Nat)]) ∧ Below w.heap.size w w' := by
  have B0 := ((Below.refl w.heap.size w).alloc (Nat.le_refl _) (.cells #[PV ps, .int .i64 t] 221)).alloc (by simp) (.cells #[.int .u64 0, .int .u64 0] 105)
  have z1 : (w.alloc (.cells #[PV ps, .int .i64 t] 221)).heap.size = w.heap.size + 1 := by simp
  have q1 := heap_alloc_new w (.cells #[PV ps, .int .i64 t] 221)
  have q2 := heap_alloc_new (w.alloc (.cells #[PV ps, .int .i64 t] 221)) (.cells #[.int .u64 0, .int .u64 0] 105)
  have q3 := (((Below.refl (w.alloc (.cells #[PV ps, .int .i64 t] 221)).heap.size (w.alloc (.cells #[PV ps, .int .i64 t] 221))).alloc (Nat.le_refl _) (.cells #[.int .u64 0, .int .u64 0] 105)).block w.heap.size (by simp)).trans q1
  rw [z1] at q2
  have hz : w.heap.size + 2 ≤ ((w.alloc (.cells #[PV ps, .int .i64 t] 221)).alloc (.cells #[.int .u64 0, .int .u64 0] 105)).heap.size := by simp
  generalize hW : (w.alloc (.cells #[PV ps, .int .i64 t] 221)).alloc (.cells #[.int .u64 0, .int .u64 0] 105) = W0 at *
  have hi := hx.fit.inv
  have hget := fun W (hw : Below W0.heap.size W0 W) {n : BN} {hh : Nat} (hb : BnAt S t hh n) => bt_get (h.below (B0.trans (hw.mono B0.size))) hi hb
  have hsize := fun W (hw : Below W0.heap.size W0 W) {n : BN} {hh : Nat} (hb : BnAt S t hh n) hz => bt_size (h.below (B0.trans (hw.mono B0.size))) hi hb hz
  have hplace := fun W (hw : Below W0.heap.size W0 W) {es : List It} {vk vv vc : Value} {sz : Nat} hk hl hs he => bt_place (h.below (B0.trans (hw.mono B0.size))) hi t (es := es) (vk := vk) (vv := vv) (vc := vc) (sz := sz) hk hl hs he key
  have HG := Lib.hid (And.intro (And.intro B0 (And.intro q2 (And.intro q3 hz))) (And.intro @hget (And.intro @hsize @hplace)))
  have HX := Lib.hid hx
  obtain ⟨R, hR⟩ : ∃ R, Bt.findB key (Bt.its x) = R := ⟨_, rfl⟩
  obtain ⟨rb, hrb⟩ : ∃ rb, belowB key (Bt.its x) = rb := ⟨_, rfl⟩
  have hrl : rb ≤ 1000000 := by have := hx.few; have := below_le (key := key) (Bt.its x); omega
  obtain ⟨n0, hn0⟩ : ∃ n0, Bt.hd x = n0 := ⟨_, rfl⟩
  have HR := Lib.hid (And.intro hR (And.intro hrb hn0))
  rw [hR, hrb, hn0]
  unfold trB at hget hsize hplace ⊢
  clear hget hsize hplace h hx hi B0 q1 q2 q3 z1 hz hR hrb hn0
  go_enter Tryz.func225, Tryz.ntmps225
  go_wp2_with fail
  clear hW
  go_loopw [1, 8, 9, 10, 11, 12, 13, 14] (fun s1 s8 _ _ _ _ _ s14 wr => ∃ (d' i b hh : Nat), s1 = .int .u64 hh ∧ s8 = .int .i64 b ∧ s14 = .int .i64 i ∧ i + d' < 40 ∧ b ≤ 1000000 ∧ Hid (Below W0.heap.size W0 wr ∧ ∃ y : Bt (d' + 1), Bt.Walk S o t y ∧ Bt.hd y = hh ∧ b + belowB key (Bt.its y) = rb ∧ Bt.findB key (Bt.its y) = R)) (fun _ _ _ _ _ _ _ s14 _ => 40 - (intOf s14).toNat)
  case atStart => exact ⟨d, 0, 0, n0, rfl, rfl, rfl, by omega, by omega, Below.refl _ _, x, HX.out, HR.out.2.2, by rw [HR.out.2.1]; omega, HR.out.1⟩
  case round =>
    obtain ⟨d', i, b, hh, rfl, rfl, rfl, hid, hbl, I⟩ := hrel
    obtain ⟨hB, y, hy, hhy, hby, hfy⟩ := I.out
    have hlt : (i : Int) < 40 := by omega
    have t3 := (hB.block w.heap.size (by have := HG.out.1.2.2.2; omega)).trans HG.out.1.2.2.1
    have x0 : (wr).cell? ⟨w.heap.size, 0, none⟩ = some (PV ps) := by rw [cell_of_block t3]; rfl
    have x1 : (wr).cell? ⟨w.heap.size, 1, none⟩ = some (.int .i64 t) := by rw [cell_of_block t3]; rfl
    have hget := HG.out.2.1 wr hB hy.read
    unfold trB bnV at hget
    rw [hhy] at hget
    have HY := Lib.hid (And.intro hB (And.intro hy (And.intro hhy (And.intro hby hfy))))
    clear hB hy hhy hby hfy t3
    obtain ⟨n, hn⟩ : ∃ n, Bt.bn y = n := ⟨_, rfl⟩
    rw [hn] at hget
    have HGT := Lib.hid hget
    clear hget
    go_wp2_with fail
    refine HGT.out.mono ?_
    rintro e w1 ⟨vk, vv, vc, rfl, rows, hb⟩
    obtain ⟨Ak, ck, rfl⟩ := rows.k.slice2
    obtain ⟨Av, cv, rfl⟩ := rows.v.slice2
    obtain ⟨Ac, cc, rfl⟩ := rows.c.slice2
    have hkl : n.keys.length = (Bn.es y).length := by rw [← hn]; unfold Bt.bn; rw [List.length_map]
    have hvl : n.vals.length = (Bn.es y).length := by rw [← hn]; unfold Bt.bn; rw [List.length_map]
    have hcl : n.kids.length = (Bn.ks y).length := by rw [← hn]; unfold Bt.bn; rw [List.length_map]
    rw [hkl] at rows
    rw [hvl] at rows
    rw [hcl] at rows
    rw [hkl, hvl, hcl]
    generalize n.size = sz at *
    have hy := HY.out.2.1
    obtain ⟨es1, es2, es3⟩ := hy.es
    generalize hlk : (Bn.es y).length = lk at *
    generalize hlc : (Bn.ks y).length = lc at *
    have A1 := (Below.refl w1.heap.size w1).alloc (Nat.le_refl _) (.cells #[.slice Ak lk ck, .slice Av lk cv, .slice Ac lc cc, .int .u64 sz] 267)
    have p1 := heap_alloc_new w1 (.cells #[.slice Ak lk ck, .slice Av lk cv, .slice Ac lc cc, .int .u64 sz] 267)
    have B1 := HY.out.1.trans ((hb.trans (A1.mono hb.size)).mono HY.out.1.size)
    have rows1 := rows.below A1
    have hlt1 : w1.heap.size < (w1.alloc (.cells #[.slice Ak lk ck, .slice Av lk cv, .slice Ac lc cc, .int .u64 sz] 267)).heap.size := by simp
    obtain ⟨W1, hW1⟩ : ∃ W1, w1.alloc (.cells #[.slice Ak lk ck, .slice Av lk cv, .slice Ac lc cc, .int .u64 sz] 267) = W1 := ⟨_, rfl⟩
    rw [hW1] at A1 p1 B1 rows1 hlt1
    have t3 := (B1.block w.heap.size (by have := HG.out.1.2.2.2; omega)).trans HG.out.1.2.2.1
    have x0 : (W1).cell? ⟨w.heap.size, 0, none⟩ = some (PV ps) := by rw [cell_of_block t3]; rfl
    have x1 : (W1).cell? ⟨w.heap.size, 1, none⟩ = some (.int .i64 t) := by rw [cell_of_block t3]; rfl
    have y0 : (W1).cell? ⟨w1.heap.size, 0, none⟩ = some (.slice Ak lk ck) := by rw [cell_of_block p1]; rfl
    have y1 : (W1).cell? ⟨w1.heap.size, 1, none⟩ = some (.slice Av lk cv) := by rw [cell_of_block p1]; rfl
    have y2 : (W1).cell? ⟨w1.heap.size, 2, none⟩ = some (.slice Ac lc cc) := by rw [cell_of_block p1]; rfl
    have y3 : (W1).cell? ⟨w1.heap.size, 3, none⟩ = some (.int .u64 sz) := by rw [cell_of_block p1]; rfl
    have hks : n.keys = (Bn.es y).map (·.kh) := by rw [← hn]; rfl
    have hrk := rows1.k.hrow
    rw [hks] at hrk
    have hpl := HG.out.2.2.2 W1 B1 (vv := .slice Av lk cv) (vc := .slice Ac lc cc) (sz := sz) hrk (by omega) es1 es2
    unfold trB bnV at hpl
    have HPL := Lib.hid hpl
    have hrv := rows1.v.hrow
    have hrc := rows1.c.hrow
    rw [← hn] at hrv hrc
    have hrv : HRow W1 (.slice Av lk cv) ((Bn.es y).map (·.vh)) := hrv
    have hrc : HRow W1 (.slice Ac lc cc) ((Bn.ks y).map Bt.hd) := hrc
    have q6 := (B1.block (w.heap.size + 1) (by have := HG.out.1.2.2.2; omega)).trans HG.out.1.2.1
    have hwz := HY.out.1.size
    have hz2 := HG.out.1.2.2.2
    have gek : ∀ g o, Ak = some ⟨g, o, none⟩ → w.heap.size + 1 ≠ g := fun g o e => by subst e; have := rows1.k.ge g rfl; omega
    have gev : ∀ g o, Av = some ⟨g, o, none⟩ → w.heap.size + 1 ≠ g := fun g o e => by subst e; have := rows1.v.ge g rfl; omega
    have gec : ∀ g o, Ac = some ⟨g, o, none⟩ → w.heap.size + 1 ≠ g := fun g o e => by subst e; have := rows1.c.ge g rfl; omega
    have hne1 : w.heap.size + 1 ≠ w1.heap.size := by have := hb.size; omega
    have H1 := Lib.hid (And.intro B1 (And.intro p1 (And.intro (And.intro hrk (And.intro hrv hrc)) (And.intro t3 (And.intro hlt1 q6)))))
    have HN := Lib.hid (And.intro gek (And.intro gev (And.intro gec (And.intro hne1 (Nat.le_trans hz2 hwz)))))
    clear gek gev gec hne1 hwz hz2
    clear hpl rows rows1 hb A1 p1 B1 t3 hrk hrv hrc hks HGT hkl hvl hcl hn es1 es2 hlt1 q6
    obtain ⟨k, hk⟩ : ∃ k, belowB key (Bn.es y) = k := ⟨_, rfl⟩
    obtain ⟨he, hhe⟩ : ∃ he, hereB key (Bn.es y) = he := ⟨_, rfl⟩
    rw [hk, hhe] at HPL
    have hkle : k ≤ lk := by rw [← hk, ← hlk]; exact below_le _
    have hwk : IntKind.i64.wrap ((b : Int) + k) = (b : Int) + k := IntWalk.i64_in _ (by omega)
    have HK := Lib.hid (And.intro hk (And.intro hhe (And.intro hlk hlc)))
    clear hk hhe hlk hlc hy
    go_wp2_with fail
    refine HPL.out.mono ?_
    rintro e w2 ⟨rfl, hb2⟩
    have p2 := (hb2.block w1.heap.size H1.out.2.2.2.2.1).trans H1.out.2.1
    have t2 := (hb2.block w.heap.size (by have := H1.out.1.size; have := HG.out.1.2.2.2; omega)).trans H1.out.2.2.2.1
    clear x0 x1 y0 y1 y2 y3
    have x0 : (w2).cell? ⟨w.heap.size, 0, none⟩ = some (PV ps) := by rw [cell_of_block t2]; rfl
    have x1 : (w2).cell? ⟨w.heap.size, 1, none⟩ = some (.int .i64 t) := by rw [cell_of_block t2]; rfl
    have y0 : (w2).cell? ⟨w1.heap.size, 0, none⟩ = some (.slice Ak lk ck) := by rw [cell_of_block p2]; rfl
    have y1 : (w2).cell? ⟨w1.heap.size, 1, none⟩ = some (.slice Av lk cv) := by rw [cell_of_block p2]; rfl
    have y2 : (w2).cell? ⟨w1.heap.size, 2, none⟩ = some (.slice Ac lc cc) := by rw [cell_of_block p2]; rfl
    have y3 : (w2).cell? ⟨w1.heap.size, 3, none⟩ = some (.int .u64 sz) := by rw [cell_of_block p2]; rfl
    have HB2 := Lib.hid hb2
    clear hb2 p2 t2 HPL hW1
    cases d' with
    | zero =>
      have hc0 : lc = 0 := by rw [← HK.out.2.2.2, Bt.nil_of_zero (Bn.ks y)]; rfl
      subst hc0
      obtain ⟨hq1, hq2⟩ := HY.out.2.1.leaf key
      rw [HK.out.1, HK.out.2.1] at hq2
      rw [HK.out.1] at hq1
      have hRb : rb = b + k := by have := HY.out.2.2.2.1; rw [hq1] at this; exact this.symm
      have hRR := HY.out.2.2.2.2
      rw [hq2] at hRR
      have HRR := Lib.hid hRR
      clear hq1 hq2 hRR x0 x1 y0 y1 y2 y3
      go_wp2_with fail
      go_loopw [8, 13] (fun s8 s13 wq => s8 = .int .i64 ((b : Int) + k) ∧ s13 = .int .i64 0 ∧ wq = w2) (fun _ _ _ => 0)
      case atStart => exact ⟨rfl, rfl, rfl⟩
      case round =>
        obtain ⟨rfl, rfl, rfl⟩ := hrel
        have p2 := (HB2.out.block w1.heap.size H1.out.2.2.2.2.1).trans H1.out.2.1
        have t2 := (HB2.out.block w.heap.size (by have := H1.out.1.size; have := HG.out.1.2.2.2; omega)).trans H1.out.2.2.2.1
        have q2 := (HB2.out.block (w.heap.size + 1) (by have := H1.out.1.size; have := HG.out.1.2.2.2; omega)).trans H1.out.2.2.2.2.2
        have x0 : (wr).cell? ⟨w.heap.size, 0, none⟩ = some (PV ps) := by rw [cell_of_block t2]; rfl
        have x1 : (wr).cell? ⟨w.heap.size, 1, none⟩ = some (.int .i64 t) := by rw [cell_of_block t2]; rfl
        have y0 : (wr).cell? ⟨w1.heap.size, 0, none⟩ = some (.slice Ak lk ck) := by rw [cell_of_block p2]; rfl
        have y1 : (wr).cell? ⟨w1.heap.size, 1, none⟩ = some (.slice Av lk cv) := by rw [cell_of_block p2]; rfl
        have y2 : (wr).cell? ⟨w1.heap.size, 2, none⟩ = some (.slice Ac 0 cc) := by rw [cell_of_block p2]; rfl
        have y3 : (wr).cell? ⟨w1.heap.size, 3, none⟩ = some (.int .u64 sz) := by rw [cell_of_block p2]; rfl
        have z0 : (wr).cell? ⟨w.heap.size + 1, 0, none⟩ = some (.int .u64 0) := by rw [cell_of_block q2]; rfl
        have z1 : (wr).cell? ⟨w.heap.size + 1, 1, none⟩ = some (.int .u64 0) := by rw [cell_of_block q2]; rfl
        have f0 : (wr).frozen? ⟨w.heap.size + 1, 0, none⟩ = false := frozen_of_block q2
        have f1 : (wr).frozen? ⟨w.heap.size + 1, 1, none⟩ = false := frozen_of_block q2
        cases he with
        | true =>
          obtain ⟨hkk, hek⟩ := hereB_true HK.out.2.1
          have hkl := HK.out.2.2.1
          obtain ⟨e, hee⟩ : ∃ e, (Bn.es y)[k]? = some e := by rw [← HK.out.1]; exact ⟨_, List.getElem?_eq_getElem hkk⟩
          have hkn : k < lk := by rw [← HK.out.1, ← hkl]; exact hkk
          have hkn2 : (k : Int) < lk := by omega
          rw [if_pos rfl, hee] at HRR
          obtain ⟨gk, ok, rfl, hck⟩ := HRow.at H1.out.2.2.1.1 hee
          obtain ⟨gv, ov, rfl, hcv⟩ := HRow.at (f := fun d : It => d.vh) (l := Bn.es y) H1.out.2.2.1.2.1 hee
          have dk := (HB2.out.cell (p := ⟨gk, ok + k, none⟩) (hcell_lt hck)).trans hck
          have dv := (HB2.out.cell (p := ⟨gv, ov + k, none⟩) (hcell_lt hcv)).trans hcv
          have HQ := Lib.hid q2
          clear hck hcv hee hkk hek hkl p2 t2 q2
          go_wp2_with fail
          go_region
          go_wp2_with fail
          have BW : Below w.heap.size w wr := HG.out.1.1.trans ((H1.out.1.trans (HB2.out.mono H1.out.1.size)).mono HG.out.1.1.size)
          have eW := st2_heap HQ.out (.int .u64 (e.kh : Nat)) (.int .u64 (e.vh : Nat))
          have BF := st2_below BW (b := w.heap.size + 1) (by omega) (.int .u64 (e.kh : Nat)) (.int .u64 (e.vh : Nat))
          generalize ((wr.setCell ⟨w.heap.size + 1, 0, none⟩ (.int .u64 (e.kh : Nat))).setCell ⟨w.heap.size + 1, 1, none⟩ (.int .u64 (e.vh : Nat))) = WF at *
          have eW : WF.drew.heap[w.heap.size + 1]? = _ := eW
          have e0 : (WF.drew).cell? ⟨w.heap.size + 1, 0, none⟩ = some (.int .u64 (e.kh : Nat)) := by rw [cell_of_block eW]; rfl
          have e1 : (WF.drew).cell? ⟨w.heap.size + 1, 1, none⟩ = some (.int .u64 (e.vh : Nat)) := by rw [cell_of_block eW]; rfl
          exact bodyPost_ret (v := .tuple #[.agg #[.int .u64 (e.kh : Nat), .int .u64 (e.vh : Nat)], .bool true, .int .i64 ((b : Int) + k)]) (by simp [results, Tryz.f225, go_sem, e0, e1]) rfl ⟨by rw [← HRR.out, hRb]; rfl, BF.drew⟩
        | false =>
          rw [if_neg (by simp)] at HRR
          have HQ := Lib.hid q2
          clear p2 t2 q2
          go_wp2_with fail
          have BW : Below w.heap.size w wr := HG.out.1.1.trans ((H1.out.1.trans (HB2.out.mono H1.out.1.size)).mono HG.out.1.1.size)
          have eW := st2_heap HQ.out (.int .u64 0) (.int .u64 0)
          have BF := st2_below BW (b := w.heap.size + 1) (by omega) (.int .u64 0) (.int .u64 0)
          generalize ((wr.setCell ⟨w.heap.size + 1, 0, none⟩ (.int .u64 0)).setCell ⟨w.heap.size + 1, 1, none⟩ (.int .u64 0)) = WF at *
          have e0 : (WF).cell? ⟨w.heap.size + 1, 0, none⟩ = some (.int .u64 0) := by rw [cell_of_block eW]; rfl
          have e1 : (WF).cell? ⟨w.heap.size + 1, 1, none⟩ = some (.int .u64 0) := by rw [cell_of_block eW]; rfl
          exact bodyPost_ret (v := .tuple #[.agg #[.int .u64 0, .int .u64 0], .bool false, .int .i64 ((b : Int) + k)]) (by simp [results, Tryz.f225, go_sem, e0, e1]) rfl ⟨by rw [← HRR.out, hRb]; rfl, BF⟩
    | succ d' =>
      have hy := HY.out.2.1
      have hkl2 := hy.klen key
      rw [HK.out.1] at hkl2
      have hin := hy.inner' key HK.out.1 hkl2
      rw [HK.out.2.1] at hin
      have hlc := HK.out.2.2.2
      have hlkk := HK.out.2.2.1
      have hlc0 : (0 : Int) < lc := by omega
      have hkc : (k : Int) < lc := by omega
      have hsl := sumK_le hy
      have hfew := hy.few
      have hsz : ∀ W, Below W1.heap.size W1 W → ∀ j (h : j < (Bn.ks y).length), Calls Tryz.prog 158 #[.agg #[PV ps, .int .i64 t], .int .u64 (Bt.hd (Bn.ks y)[j] : Nat)] W fun e w' => e = .returned (.int .i64 ((Bt.its (Bn.ks y)[j]).length : Nat)) ∧ Below W.heap.size W w' := fun W hW j h => by
        have hkj := hy.kid (List.getElem_mem h)
        have := HG.out.2.2.1 W (H1.out.1.trans (hW.mono H1.out.1.size)) hkj.read hkj.size.2
        unfold trB at this
        exact this
      obtain ⟨su, hsu⟩ : ∃ su : Nat → Nat, sumK y = su := ⟨_, rfl⟩
      have hss := fun j h => sumK_succ (x := y) (j := j) h
      have hsu0 : su 0 = 0 := by rw [← hsu]; simp [sumK]
      rw [hsu] at hin hsl
      simp only [hsu] at hss
      have HZ := Lib.hid (And.intro hy (And.intro hin (And.intro hsl (And.intro hfew (And.intro hsz (And.intro hss (And.intro hkl2 (And.intro hlc hlkk))))))))
      clear hin hsl hfew hsz hss hsu x0 x1 y0 y1 y2 y3 hlc hlkk
      go_wp2_with fail
      go_loopw [8, 13] (fun s8 s13 wr => ∃ j : Nat, j ≤ k ∧ s8 = .int .i64 ((b : Int) + k + (su j : Nat)) ∧ s13 = .int .i64 j ∧ Hid (Below W1.heap.size W1 wr)) (fun _ s13 _ => k - (intOf s13).toNat)
      case atStart => exact ⟨0, by omega, by rw [hsu0]; simp, rfl, HB2⟩
      case round =>
        obtain ⟨j, hjk, rfl, rfl, HBr⟩ := hrel
        have p2 := (HBr.out.block w1.heap.size H1.out.2.2.2.2.1).trans H1.out.2.1
        have t2 := (HBr.out.block w.heap.size (by have := H1.out.1.size; have := HG.out.1.2.2.2; omega)).trans H1.out.2.2.2.1
        have q2 := (HBr.out.block (w.heap.size + 1) (by have := H1.out.1.size; have := HG.out.1.2.2.2; omega)).trans H1.out.2.2.2.2.2
        have x0 : (wr).cell? ⟨w.heap.size, 0, none⟩ = some (PV ps) := by rw [cell_of_block t2]; rfl
        have x1 : (wr).cell? ⟨w.heap.size, 1, none⟩ = some (.int .i64 t) := by rw [cell_of_block t2]; rfl
        have y0 : (wr).cell? ⟨w1.heap.size, 0, none⟩ = some (.slice Ak lk ck) := by rw [cell_of_block p2]; rfl
        have y1 : (wr).cell? ⟨w1.heap.size, 1, none⟩ = some (.slice Av lk cv) := by rw [cell_of_block p2]; rfl
        have y2 : (wr).cell? ⟨w1.heap.size, 2, none⟩ = some (.slice Ac lc cc) := by rw [cell_of_block p2]; rfl
        have y3 : (wr).cell? ⟨w1.heap.size, 3, none⟩ = some (.int .u64 sz) := by rw [cell_of_block p2]; rfl
        have z0 : (wr).cell? ⟨w.heap.size + 1, 0, none⟩ = some (.int .u64 0) := by rw [cell_of_block q2]; rfl
        have z1 : (wr).cell? ⟨w.heap.size + 1, 1, none⟩ = some (.int .u64 0) := by rw [cell_of_block q2]; rfl
        have f0 : (wr).frozen? ⟨w.heap.size + 1, 0, none⟩ = false := frozen_of_block q2
        have f1 : (wr).frozen? ⟨w.heap.size + 1, 1, none⟩ = false := frozen_of_block q2
        have hjc : j < (Bn.ks y).length := by have := HZ.out.2.2.2.2.2.2.1; omega
        have hee : (Bn.ks y)[j]? = some (Bn.ks y)[j] := List.getElem?_eq_getElem hjc
        obtain ⟨gc, oc, rfl, hcc⟩ := HRow.at (f := Bt.hd) (l := Bn.ks y) H1.out.2.2.1.2.2 hee
        obtain ⟨kj, hkj⟩ : ∃ kj, (Bn.ks y)[j] = kj := ⟨_, rfl⟩
        obtain ⟨nj, hnj⟩ : ∃ nj, Bt.hd kj = nj := ⟨_, rfl⟩
        obtain ⟨zj, hzj⟩ : ∃ zj, (Bt.its kj).length = zj := ⟨_, rfl⟩
        have hsj := fun W hW => HZ.out.2.2.2.2.1 W hW j hjc
        rw [hkj, hnj] at hsj
        rw [hkj, hnj] at hcc
        rw [hzj] at hsj
        have hsum := HZ.out.2.2.2.2.2.1 j hjc
        rw [hkj, hzj] at hsum
        have hb8 := HZ.out.2.2.1 j
        have hb9 := HZ.out.2.2.1 (j + 1)
        have hb7 := HZ.out.2.2.2.1
        have hgc := HN.out.2.2.1 gc oc rfl
        have dc := (HBr.out.cell (p := ⟨gc, oc + j, none⟩) (hcell_lt hcc)).trans hcc
        have hjn : (j : Int) < lc := by omega
        have hwj : IntKind.i64.wrap ((b : Int) + k + (su j : Nat) + (zj : Nat)) = (b : Int) + k + (su j : Nat) + (zj : Nat) := IntWalk.i64_in _ (by omega)
        obtain ⟨I, hIi, hIo⟩ := but_class W1 (w.heap.size + 1)
        have hz1 := fun x : Keeps I => (hIi _ x.ok w1.heap.size H1.out.2.2.2.2.1 (Ne.symm HN.out.2.2.2.1)).trans H1.out.2.1
        have hz2 := fun x : Keeps I => (hIi _ x.ok w.heap.size (by have := H1.out.1.size; have := HG.out.1.2.2.2; omega) (by omega)).trans H1.out.2.2.2.1
        have m0 : ∀ x : Keeps I, x.to.cell? ⟨w1.heap.size, 0, none⟩ = some (.slice Ak lk ck) := fun x => by rw [cell_of_block (hz1 x)]; rfl
        have m1 : ∀ x : Keeps I, x.to.cell? ⟨w1.heap.size, 1, none⟩ = some (.slice Av lk cv) := fun x => by rw [cell_of_block (hz1 x)]; rfl
        have m2 : ∀ x : Keeps I, x.to.cell? ⟨w1.heap.size, 2, none⟩ = some (.slice (some ⟨gc, oc, none⟩) lc cc) := fun x => by rw [cell_of_block (hz1 x)]; rfl
        have m3 : ∀ x : Keeps I, x.to.cell? ⟨w1.heap.size, 3, none⟩ = some (.int .u64 sz) := fun x => by rw [cell_of_block (hz1 x)]; rfl
        have n0 : ∀ x : Keeps I, x.to.cell? ⟨w.heap.size, 0, none⟩ = some (PV ps) := fun x => by rw [cell_of_block (hz2 x)]; rfl
        have n1 : ∀ x : Keeps I, x.to.cell? ⟨w.heap.size, 1, none⟩ = some (.int .i64 t) := fun x => by rw [cell_of_block (hz2 x)]; rfl
        have o0 : ∀ x : Keeps I, x.to.cell? ⟨gc, oc + j, none⟩ = some (.int .u64 nj) := fun x => (cell_of_same (hIi _ x.ok gc (hcell_lt hcc) (Ne.symm hgc))).trans hcc
        have hI0 : I wr.drew := hIo _ fun k hk _ => HBr.out.block k hk
        have HI := Lib.hid hIo
        have HS := Lib.hid hsj
        have HQ := Lib.hid q2
        have HJ := Lib.hid (And.intro hkj (And.intro hnj (And.intro hzj (And.intro hsum (And.intro hcc hgc)))))
        clear hIo hz1 hz2 hee hsj hcc p2 t2 q2 hkj hnj hzj hsum hgc
        by_cases hjlt : j < k
        · have hjlt2 : (j : Int) < k := by omega
          go_wp2_with fail
          refine wp_region_plan I (.take 0 (.take 1 (.take 2 (.take 3 (.take 4 (.take 5 (.take 6 (.go 7 (.take 8 (.take 9 .nil)))))))))) (by kernel_rfl) (by kernel_rfl) hI0 ?_
          refine' plan_take _ (by rfl) _ (by rfl) ?_ ?_
          rotate_left
          · rintro _ ⟨x, rfl⟩
            have hxm0 := m0 x
            have hxm1 := m1 x
            have hxm2 := m2 x
            have hxm3 := m3 x
            have hxn0 := n0 x
            have hxn1 := n1 x
            have hxo0 := o0 x
            go_simp
            try with_reducible rfl
          try simp only [Act.put, List.setIfInBounds_toArray, List.set_cons_zero, List.set_cons_succ]
          refine' plan_take _ (by rfl) _ (by rfl) ?_ ?_
          rotate_left
          · rintro _ ⟨x, rfl⟩
            have hxm0 := m0 x
            have hxm1 := m1 x
            have hxm2 := m2 x
            have hxm3 := m3 x
            have hxn0 := n0 x
            have hxn1 := n1 x
            have hxo0 := o0 x
            go_simp
            try with_reducible rfl
          try simp only [Act.put, List.setIfInBounds_toArray, List.set_cons_zero, List.set_cons_succ]
          refine' plan_take _ (by rfl) _ (by rfl) ?_ ?_
          rotate_left
          · rintro _ ⟨x, rfl⟩
            have hxm0 := m0 x
            have hxm1 := m1 x
            have hxm2 := m2 x
            have hxm3 := m3 x
            have hxn0 := n0 x
            have hxn1 := n1 x
            have hxo0 := o0 x
            go_simp
            try with_reducible rfl
          try simp only [Act.put, List.setIfInBounds_toArray, List.set_cons_zero, List.set_cons_succ]
          refine' plan_take _ (by rfl) _ (by rfl) ?_ ?_
          rotate_left
          · rintro _ ⟨x, rfl⟩
            have hxm0 := m0 x
            have hxm1 := m1 x
            have hxm2 := m2 x
            have hxm3 := m3 x
            have hxn0 := n0 x
            have hxn1 := n1 x
            have hxo0 := o0 x
            go_simp
            try with_reducible rfl
          try simp only [Act.put, List.setIfInBounds_toArray, List.set_cons_zero, List.set_cons_succ]
          refine' plan_take _ (by rfl) _ (by rfl) ?_ ?_
          rotate_left
          · rintro _ ⟨x, rfl⟩
            have hxm0 := m0 x
            have hxm1 := m1 x
            have hxm2 := m2 x
            have hxm3 := m3 x
            have hxn0 := n0 x
            have hxn1 := n1 x
            have hxo0 := o0 x
            go_simp
            try with_reducible rfl
          try simp only [Act.put, List.setIfInBounds_toArray, List.set_cons_zero, List.set_cons_succ]
          refine' plan_take _ (by rfl) _ (by rfl) ?_ ?_
          rotate_left
          · rintro _ ⟨x, rfl⟩
            have hxm0 := m0 x
            have hxm1 := m1 x
            have hxm2 := m2 x
            have hxm3 := m3 x
            have hxn0 := n0 x
            have hxn1 := n1 x
            have hxo0 := o0 x
            go_simp
            try with_reducible rfl
          try simp only [Act.put, List.setIfInBounds_toArray, List.set_cons_zero, List.set_cons_succ]
          refine' plan_take _ (by rfl) _ (by rfl) ?_ ?_
          rotate_left
          · rintro _ ⟨x, rfl⟩
            have hxm0 := m0 x
            have hxm1 := m1 x
            have hxm2 := m2 x
            have hxm3 := m3 x
            have hxn0 := n0 x
            have hxn1 := n1 x
            have hxo0 := o0 x
            go_simp
            try with_reducible rfl
          try simp only [Act.put, List.setIfInBounds_toArray, List.set_cons_zero, List.set_cons_succ]
          refine plan_do _ (by rfl) (by rfl) (fun K hK => ?_)
          go_simp
          refine (HS.out wr.drew HBr.out.drew).mono ?_
          rintro e w3 ⟨rfl, hb3⟩
          have B3 := HBr.out.drew.trans (hb3.mono HBr.out.size)
          have HB3 := Lib.hid B3
          clear hb3
          try go_simp
          refine hK.out _ _ (HI.out _ fun k hk _ => HB3.out.block k hk) ?_
          clear hK K
          try simp only [Act.put, List.setIfInBounds_toArray, List.set_cons_zero, List.set_cons_succ]
          clear B3
          refine' plan_take _ (by rfl) _ (by rfl) ?_ ?_
          rotate_left
          · rintro _ ⟨x, rfl⟩
            go_simp
            try with_reducible rfl
          try simp only [Act.put, List.setIfInBounds_toArray, List.set_cons_zero, List.set_cons_succ]
          refine' plan_take _ (by rfl) _ (by rfl) ?_ ?_
          rotate_left
          · rintro _ ⟨x, rfl⟩
            go_simp
            try with_reducible rfl
          try simp only [Act.put, List.setIfInBounds_toArray, List.set_cons_zero, List.set_cons_succ]
          refine plan_nil ?_
          go_wp2_with fail
          go_roundw
          case rel => exact ⟨j + 1, by omega, by rw [HJ.out.2.2.2.1]; congr 1; omega, by simp, HB3⟩
          case measure => simp [intOf]; omega
        · obtain rfl : j = k := by omega
          have hjlt2 : ¬ (j : Int) < j := by omega
          cases he with
          | true =>
            obtain ⟨f1, f2⟩ := HZ.out.2.1.1 rfl
            obtain ⟨hkk, hek⟩ := hereB_true HK.out.2.1
            obtain ⟨e, hee⟩ : ∃ e, (Bn.es y)[j]? = some e := by rw [← HK.out.1]; exact ⟨_, List.getElem?_eq_getElem hkk⟩
            have hkn : j < lk := by rw [← HK.out.1, ← HK.out.2.2.1]; exact hkk
            have hkn2 : (j : Int) < lk := by omega
            have e1 := HY.out.2.2.2.1
            have e2 := HY.out.2.2.2.2
            rw [f1, HJ.out.1, HJ.out.2.2.1] at e1
            rw [f2, hee] at e2
            have HE := Lib.hid (And.intro e1 e2)
            obtain ⟨gk, ok, rfl, hck⟩ := HRow.at (f := fun d : It => d.kh) (l := Bn.es y) H1.out.2.2.1.1 hee
            obtain ⟨gv, ov, rfl, hcv⟩ := HRow.at (f := fun d : It => d.vh) (l := Bn.es y) H1.out.2.2.1.2.1 hee
            have hgk := HN.out.1 gk ok rfl
            have hgv := HN.out.2.1 gv ov rfl
            have o1 : ∀ x : Keeps I, x.to.cell? ⟨gk, ok + j, none⟩ = some (.int .u64 (e.kh : Nat)) := fun x => (cell_of_same (hIi _ x.ok gk (hcell_lt hck) (Ne.symm hgk))).trans hck
            have o2 : ∀ x : Keeps I, x.to.cell? ⟨gv, ov + j, none⟩ = some (.int .u64 (e.vh : Nat)) := fun x => (cell_of_same (hIi _ x.ok gv (hcell_lt hcv) (Ne.symm hgv))).trans hcv
            clear e1 e2 f1 f2 hee hkk hek hck hcv hgk hgv
            go_wp2_with fail
            refine wp_region_plan I (.take 0 (.take 1 (.take 2 (.take 3 (.take 4 (.take 5 (.take 6 (.take 7 (.take 8 (.take 9 (.take 10 (.take 11 (.take 12 (.take 13 (.take 14 (.take 15 (.take 16 (.take 17 (.go 18 (.take 19 (.go 20 (.take 21 (.take 22 .nil))))))))))))))))))))))) (by kernel_rfl) (by kernel_rfl) hI0 ?_
            refine' plan_take _ (by rfl) _ (by rfl) ?_ ?_
            rotate_left
            · rintro _ ⟨x, rfl⟩
              have hxm0 := m0 x
              have hxm1 := m1 x
              have hxm2 := m2 x
              have hxm3 := m3 x
              have hxn0 := n0 x
              have hxn1 := n1 x
              have hxo0 := o0 x
              have hxo1 := o1 x
              have hxo2 := o2 x
              go_simp
              try with_reducible rfl
            try simp only [Act.put, List.setIfInBounds_toArray, List.set_cons_zero, List.set_cons_succ]
            refine' plan_take _ (by rfl) _ (by rfl) ?_ ?_
            rotate_left
            · rintro _ ⟨x, rfl⟩
              have hxm0 := m0 x
              have hxm1 := m1 x
              have hxm2 := m2 x
              have hxm3 := m3 x
              have hxn0 := n0 x
              have hxn1 := n1 x
              have hxo0 := o0 x
              have hxo1 := o1 x
              have hxo2 := o2 x
              go_simp
              try with_reducible rfl
            try simp only [Act.put, List.setIfInBounds_toArray, List.set_cons_zero, List.set_cons_succ]
            refine' plan_take _ (by rfl) _ (by rfl) ?_ ?_
            rotate_left
            · rintro _ ⟨x, rfl⟩
              have hxm0 := m0 x
              have hxm1 := m1 x
              have hxm2 := m2 x
              have hxm3 := m3 x
              have hxn0 := n0 x
              have hxn1 := n1 x
              have hxo0 := o0 x
              have hxo1 := o1 x
              have hxo2 := o2 x
              go_simp
              try with_reducible rfl
            try simp only [Act.put, List.setIfInBounds_toArray, List.set_cons_zero, List.set_cons_succ]
            refine' plan_take _ (by rfl) _ (by rfl) ?_ ?_
            rotate_left
            · rintro _ ⟨x, rfl⟩
              have hxm0 := m0 x
              have hxm1 := m1 x
              have hxm2 := m2 x
              have hxm3 := m3 x
              have hxn0 := n0 x
              have hxn1 := n1 x
              have hxo0 := o0 x
              have hxo1 := o1 x
              have hxo2 := o2 x
              go_simp
              try with_reducible rfl
            try simp only [Act.put, List.setIfInBounds_toArray, List.set_cons_zero, List.set_cons_succ]
            refine' plan_take _ (by rfl) _ (by rfl) ?_ ?_
            rotate_left
            · rintro _ ⟨x, rfl⟩
              have hxm0 := m0 x
              have hxm1 := m1 x
              have hxm2 := m2 x
              have hxm3 := m3 x
              have hxn0 := n0 x
              have hxn1 := n1 x
              have hxo0 := o0 x
              have hxo1 := o1 x
              have hxo2 := o2 x
              go_simp
              try with_reducible rfl
            try simp only [Act.put, List.setIfInBounds_toArray, List.set_cons_zero, List.set_cons_succ]
            refine' plan_take _ (by rfl) _ (by rfl) ?_ ?_
            rotate_left
            · rintro _ ⟨x, rfl⟩
              have hxm0 := m0 x
              have hxm1 := m1 x
              have hxm2 := m2 x
              have hxm3 := m3 x
              have hxn0 := n0 x
              have hxn1 := n1 x
              have hxo0 := o0 x
              have hxo1 := o1 x
              have hxo2 := o2 x
              go_simp
              try with_reducible rfl
            try simp only [Act.put, List.setIfInBounds_toArray, List.set_cons_zero, List.set_cons_succ]
            refine' plan_take _ (by rfl) _ (by rfl) ?_ ?_
            rotate_left
            · rintro _ ⟨x, rfl⟩
              have hxm0 := m0 x
              have hxm1 := m1 x
              have hxm2 := m2 x
              have hxm3 := m3 x
              have hxn0 := n0 x
              have hxn1 := n1 x
              have hxo0 := o0 x
              have hxo1 := o1 x
              have hxo2 := o2 x
              go_simp
              try with_reducible rfl
            try simp only [Act.put, List.setIfInBounds_toArray, List.set_cons_zero, List.set_cons_succ]
            refine' plan_take _ (by rfl) _ (by rfl) ?_ ?_
            rotate_left
            · rintro _ ⟨x, rfl⟩
              have hxm0 := m0 x
              have hxm1 := m1 x
              have hxm2 := m2 x
              have hxm3 := m3 x
              have hxn0 := n0 x
              have hxn1 := n1 x
              have hxo0 := o0 x
              have hxo1 := o1 x
              have hxo2 := o2 x
              go_simp
              try with_reducible rfl
            try simp only [Act.put, List.setIfInBounds_toArray, List.set_cons_zero, List.set_cons_succ]
            refine' plan_take _ (by rfl) _ (by rfl) ?_ ?_
            rotate_left
            · rintro _ ⟨x, rfl⟩
              have hxm0 := m0 x
              have hxm1 := m1 x
              have hxm2 := m2 x
              have hxm3 := m3 x
              have hxn0 := n0 x
              have hxn1 := n1 x
              have hxo0 := o0 x
              have hxo1 := o1 x
              have hxo2 := o2 x
              go_simp
              try with_reducible rfl
            try simp only [Act.put, List.setIfInBounds_toArray, List.set_cons_zero, List.set_cons_succ]
            refine' plan_take _ (by rfl) _ (by rfl) ?_ ?_
            rotate_left
            · rintro _ ⟨x, rfl⟩
              have hxm0 := m0 x
              have hxm1 := m1 x
              have hxm2 := m2 x
              have hxm3 := m3 x
              have hxn0 := n0 x
              have hxn1 := n1 x
              have hxo0 := o0 x
              have hxo1 := o1 x
              have hxo2 := o2 x
              go_simp
              try with_reducible rfl
            try simp only [Act.put, List.setIfInBounds_toArray, List.set_cons_zero, List.set_cons_succ]
            refine' plan_take _ (by rfl) _ (by rfl) ?_ ?_
            rotate_left
            · rintro _ ⟨x, rfl⟩
              have hxm0 := m0 x
              have hxm1 := m1 x
              have hxm2 := m2 x
              have hxm3 := m3 x
              have hxn0 := n0 x
              have hxn1 := n1 x
              have hxo0 := o0 x
              have hxo1 := o1 x
              have hxo2 := o2 x
              go_simp
              try with_reducible rfl
            try simp only [Act.put, List.setIfInBounds_toArray, List.set_cons_zero, List.set_cons_succ]
            refine' plan_take _ (by rfl) _ (by rfl) ?_ ?_
            rotate_left
            · rintro _ ⟨x, rfl⟩
              have hxm0 := m0 x
              have hxm1 := m1 x
              have hxm2 := m2 x
              have hxm3 := m3 x
              have hxn0 := n0 x
              have hxn1 := n1 x
              have hxo0 := o0 x
              have hxo1 := o1 x
              have hxo2 := o2 x
              go_simp
              try with_reducible rfl
            try simp only [Act.put, List.setIfInBounds_toArray, List.set_cons_zero, List.set_cons_succ]
            refine' plan_take _ (by rfl) _ (by rfl) ?_ ?_
            rotate_left
            · rintro _ ⟨x, rfl⟩
              have hxm0 := m0 x
              have hxm1 := m1 x
              have hxm2 := m2 x
              have hxm3 := m3 x
              have hxn0 := n0 x
              have hxn1 := n1 x
              have hxo0 := o0 x
              have hxo1 := o1 x
              have hxo2 := o2 x
              go_simp
              try with_reducible rfl
            try simp only [Act.put, List.setIfInBounds_toArray, List.set_cons_zero, List.set_cons_succ]
            refine' plan_take _ (by rfl) _ (by rfl) ?_ ?_
            rotate_left
            · rintro _ ⟨x, rfl⟩
              have hxm0 := m0 x
              have hxm1 := m1 x
              have hxm2 := m2 x
              have hxm3 := m3 x
              have hxn0 := n0 x
              have hxn1 := n1 x
              have hxo0 := o0 x
              have hxo1 := o1 x
              have hxo2 := o2 x
              go_simp
              try with_reducible rfl
            try simp only [Act.put, List.setIfInBounds_toArray, List.set_cons_zero, List.set_cons_succ]
            refine' plan_take _ (by rfl) _ (by rfl) ?_ ?_
            rotate_left
            · rintro _ ⟨x, rfl⟩
              have hxm0 := m0 x
              have hxm1 := m1 x
              have hxm2 := m2 x
              have hxm3 := m3 x
              have hxn0 := n0 x
              have hxn1 := n1 x
              have hxo0 := o0 x
              have hxo1 := o1 x
              have hxo2 := o2 x
              go_simp
              try with_reducible rfl
            try simp only [Act.put, List.setIfInBounds_toArray, List.set_cons_zero, List.set_cons_succ]
            refine' plan_take _ (by rfl) _ (by rfl) ?_ ?_
            rotate_left
            · rintro _ ⟨x, rfl⟩
              have hxm0 := m0 x
              have hxm1 := m1 x
              have hxm2 := m2 x
              have hxm3 := m3 x
              have hxn0 := n0 x
              have hxn1 := n1 x
              have hxo0 := o0 x
              have hxo1 := o1 x
              have hxo2 := o2 x
              go_simp
              try with_reducible rfl
            try simp only [Act.put, List.setIfInBounds_toArray, List.set_cons_zero, List.set_cons_succ]
            refine' plan_take _ (by rfl) _ (by rfl) ?_ ?_
            rotate_left
            · rintro _ ⟨x, rfl⟩
              have hxm0 := m0 x
              have hxm1 := m1 x
              have hxm2 := m2 x
              have hxm3 := m3 x
              have hxn0 := n0 x
              have hxn1 := n1 x
              have hxo0 := o0 x
              have hxo1 := o1 x
              have hxo2 := o2 x
              go_simp
              try with_reducible rfl
            try simp only [Act.put, List.setIfInBounds_toArray, List.set_cons_zero, List.set_cons_succ]
            refine' plan_take _ (by rfl) _ (by rfl) ?_ ?_
            rotate_left
            · rintro _ ⟨x, rfl⟩
              have hxm0 := m0 x
              have hxm1 := m1 x
              have hxm2 := m2 x
              have hxm3 := m3 x
              have hxn0 := n0 x
              have hxn1 := n1 x
              have hxo0 := o0 x
              have hxo1 := o1 x
              have hxo2 := o2 x
              go_simp
              try with_reducible rfl
            try simp only [Act.put, List.setIfInBounds_toArray, List.set_cons_zero, List.set_cons_succ]
            refine plan_do _ (by rfl) (by rfl) (fun K hK => ?_)
            go_simp
            refine (HS.out wr.drew HBr.out.drew).mono ?_
            rintro e' w3 ⟨rfl, hb3⟩
            have B3 := HBr.out.drew.trans (hb3.mono HBr.out.size)
            have q3 := (hb3.block (w.heap.size + 1) (Array.getElem?_eq_some_iff.1 HQ.out).1).trans HQ.out
            have HB3 := Lib.hid (And.intro B3 q3)
            have c0 : (w3).cell? ⟨w.heap.size + 1, 0, none⟩ = some (.int .u64 0) := by rw [cell_of_block q3]; rfl
            have c1 : (w3).cell? ⟨w.heap.size + 1, 1, none⟩ = some (.int .u64 0) := by rw [cell_of_block q3]; rfl
            have g0 : (w3).frozen? ⟨w.heap.size + 1, 0, none⟩ = false := frozen_of_block q3
            have g1 : (w3).frozen? ⟨w.heap.size + 1, 1, none⟩ = false := frozen_of_block q3
            clear hb3 q3
            try go_simp
            refine hK.out _ _ (HI.out _ fun k hk _ => HB3.out.1.block k hk) ?_
            clear hK K
            try simp only [Act.put, List.setIfInBounds_toArray, List.set_cons_zero, List.set_cons_succ]
            clear B3
            refine' plan_take _ (by rfl) _ (by rfl) ?_ ?_
            rotate_left
            · rintro _ ⟨x, rfl⟩
              go_simp
              try with_reducible rfl
            try simp only [Act.put, List.setIfInBounds_toArray, List.set_cons_zero, List.set_cons_succ]
            refine plan_do _ (by rfl) (by rfl) (fun K hK => ?_)
            go_simp
            try go_simp
            refine hK.out _ _ (HI.out _ fun k hk hne => (st2_other hne _ _).trans (HB3.out.1.block k hk)) ?_
            clear hK K
            try simp only [Act.put, List.setIfInBounds_toArray, List.set_cons_zero, List.set_cons_succ]
            refine' plan_take _ (by rfl) _ (by rfl) ?_ ?_
            rotate_left
            · rintro _ ⟨x, rfl⟩
              go_simp
              try with_reducible rfl
            try simp only [Act.put, List.setIfInBounds_toArray, List.set_cons_zero, List.set_cons_succ]
            refine' plan_take _ (by rfl) _ (by rfl) ?_ ?_
            rotate_left
            · rintro _ ⟨x, rfl⟩
              go_simp
              try with_reducible rfl
            try simp only [Act.put, List.setIfInBounds_toArray, List.set_cons_zero, List.set_cons_succ]
            refine plan_nil ?_
            go_wp2_with fail
            have BW : Below w.heap.size w w3 := HG.out.1.1.trans ((H1.out.1.trans (HB3.out.1.mono H1.out.1.size)).mono HG.out.1.1.size)
            have eW := st2_heap HB3.out.2 (.int .u64 (e.kh : Nat)) (.int .u64 (e.vh : Nat))
            have BF := st2_below BW (b := w.heap.size + 1) (by omega) (.int .u64 (e.kh : Nat)) (.int .u64 (e.vh : Nat))
            generalize ((w3.setCell ⟨w.heap.size + 1, 0, none⟩ (.int .u64 (e.kh : Nat))).setCell ⟨w.heap.size + 1, 1, none⟩ (.int .u64 (e.vh : Nat))) = WF at *
            have e0 : (WF).cell? ⟨w.heap.size + 1, 0, none⟩ = some (.int .u64 (e.kh : Nat)) := by rw [cell_of_block eW]; rfl
            have e1 : (WF).cell? ⟨w.heap.size + 1, 1, none⟩ = some (.int .u64 (e.vh : Nat)) := by rw [cell_of_block eW]; rfl
            have hcast : ((b + (j + su j + zj) : Nat) : Int) = (b : Int) + j + (su j : Nat) + (zj : Nat) := by omega
            exact bodyPost_ret (v := .tuple #[.agg #[.int .u64 (e.kh : Nat), .int .u64 (e.vh : Nat)], .bool true, .int .i64 ((b : Int) + j + (su j : Nat) + (zj : Nat))]) (by simp [results, Tryz.f225, go_sem, e0, e1]) rfl ⟨by rw [← HE.out.2, ← HE.out.1, hcast]; rfl, BF⟩
          | false =>
            go_wp2_with fail
            go_roundw
            case rel =>
              obtain ⟨f1, f2⟩ := HZ.out.2.1.2 rfl
              have e1 := HY.out.2.2.2.1
              rw [f1, HJ.out.1] at e1
              refine ⟨d', i + 1, b + j + su j, nj, rfl, by congr 1, by simp, by omega, by omega, H1.out.1.trans (HBr.out.mono H1.out.1.size), kj, ?_, HJ.out.2.1, ?_, ?_⟩
              · rw [← HJ.out.1]; exact HZ.out.1.kid (List.getElem_mem _)
              · omega
              · have := HY.out.2.2.2.2; rw [f2, HJ.out.1] at this; exact this
            case measure => simp [intOf]; omega
theorem btree_find {w : World} {ps : Nat} {t hh : Nat} {R : Option It} {z : Nat} {key : List UInt8} (hs : Calls Tryz.prog 225 #[trB ps t, .int .u64 hh, SV key] w fun e w' => e = .returned (.tuple #[itO R, .bool R.isSome, .int .i64 z]) ∧ Below w.heap.size w w') (hw : ∀ W, W = w.alloc (.cells #[.int .u64 0, .int .u64 0] 105) → Calls Tryz.prog 225 #[trB ps t, .int .u64 hh, SV key] W fun e w' => e = .returned (.tuple #[itO R, .bool R.isSome, .int .i64 z]) ∧ Below W.heap.size W w') :
    Calls Tryz.prog 190 #[PV ps, .int .i64 t, .int .u64 hh, SV key] w fun e w' => e = .returned (.tuple #[itO R, .bool R.isSome]) ∧ Below w.heap.size w w' := by
  have q1 := heap_alloc_new w (.cells #[.int .u64 0, .int .u64 0] 105)
  have B0 := (Below.refl w.heap.size w).alloc (Nat.le_refl _) (.cells #[.int .u64 0, .int .u64 0] 105)
  obtain ⟨W0, hW⟩ : ∃ W0, w.alloc (.cells #[.int .u64 0, .int .u64 0] 105) = W0 := ⟨_, rfl⟩
  rw [hW] at q1 B0
  have hs := hw W0 hW.symm
  have hRz : ∃ k v : Nat, itO R = .agg #[.int .u64 k, .int .u64 v] := by
    cases R with
    | none => exact ⟨0, 0, rfl⟩
    | some e => exact ⟨e.kh, e.vh, rfl⟩
  obtain ⟨k, v, hR⟩ := hRz
  rw [hR] at hs ⊢
  generalize R.isSome = b at *
  unfold trB at hs
  have HG := Lib.hid (And.intro hs (And.intro B0 q1))
  clear hs hw B0 q1 hR
  go_enter Tryz.func190, Tryz.ntmps190
  go_wp2_with fail
  refine HG.out.1.mono ?_
  rintro e w1 ⟨rfl, hb⟩
  have A1 := (Below.refl w1.heap.size w1).alloc (Nat.le_refl _) (.cells #[.int .u64 k, .int .u64 v] 105)
  have r1 := (hb.block w.heap.size (Array.getElem?_eq_some_iff.1 HG.out.2.2).1).trans HG.out.2.2
  have r2 := (A1.block w.heap.size (Array.getElem?_eq_some_iff.1 r1).1).trans r1
  have B1 := HG.out.2.1.trans ((hb.trans (A1.mono hb.size)).mono HG.out.2.1.size)
  have p1 := heap_alloc_new w1 (.cells #[.int .u64 k, .int .u64 v] 105)
  obtain ⟨W1, hW1⟩ : ∃ W1, w1.alloc (.cells #[.int .u64 k, .int .u64 v] 105) = W1 := ⟨_, rfl⟩
  rw [hW1] at r2 B1 p1
  have x0 : (W1).cell? ⟨w1.heap.size, 0, none⟩ = some (.int .u64 k) := by rw [cell_of_block p1]; rfl
  have x1 : (W1).cell? ⟨w1.heap.size, 1, none⟩ = some (.int .u64 v) := by rw [cell_of_block p1]; rfl
  have y0 : (W1).cell? ⟨w.heap.size, 0, none⟩ = some (.int .u64 0) := by rw [cell_of_block r2]; rfl
  have y1 : (W1).cell? ⟨w.heap.size, 1, none⟩ = some (.int .u64 0) := by rw [cell_of_block r2]; rfl
  have f0 : (W1).frozen? ⟨w.heap.size, 0, none⟩ = false := frozen_of_block r2
  have f1 : (W1).frozen? ⟨w.heap.size, 1, none⟩ = false := frozen_of_block r2
  have HB := Lib.hid (And.intro B1 r2)
  clear hb A1 r1 r2 B1 p1 hW
  go_wp2_with fail
  have eW := st2_heap HB.out.2 (.int .u64 (k : Nat)) (.int .u64 (v : Nat))
  have BF := st2_below HB.out.1 (b := w.heap.size) (Nat.le_refl _) (.int .u64 (k : Nat)) (.int .u64 (v : Nat))
  generalize ((W1.setCell ⟨w.heap.size, 0, none⟩ (.int .u64 (k : Nat))).setCell ⟨w.heap.size, 1, none⟩ (.int .u64 (v : Nat))) = WF at *
  have e0 : (WF).cell? ⟨w.heap.size, 0, none⟩ = some (.int .u64 (k : Nat)) := by rw [cell_of_block eW]; rfl
  have e1 : (WF).cell? ⟨w.heap.size, 1, none⟩ = some (.int .u64 (v : Nat)) := by rw [cell_of_block eW]; rfl
  exact bodyPost_ret (v := .tuple #[.agg #[.int .u64 (k : Nat), .int .u64 (v : Nat)], .bool b]) (by simp [results, Tryz.f190, go_sem, e0, e1]) rfl ⟨rfl, BF⟩
theorem btree_rank {w : World} {ps : Nat} {t hh : Nat} {R : Option It} {z : Nat} {key : List UInt8} (hs : Calls Tryz.prog 225 #[trB ps t, .int .u64 hh, SV key] w fun e w' => e = .returned (.tuple #[itO R, .bool R.isSome, .int .i64 z]) ∧ Below w.heap.size w w') :
    Calls Tryz.prog 348 #[PV ps, .int .i64 t, .int .u64 hh, SV key] w fun e w' => e = .returned (.int .i64 z) ∧ Below w.heap.size w w' := by
  have hRz : ∃ k v : Nat, itO R = .agg #[.int .u64 k, .int .u64 v] := by
    cases R with
    | none => exact ⟨0, 0, rfl⟩
    | some e => exact ⟨e.kh, e.vh, rfl⟩
  obtain ⟨k, v, hR⟩ := hRz
  rw [hR] at hs
  generalize R.isSome = b at *
  unfold trB at hs
  have HG := Lib.hid hs
  clear hs hR
  go_enter Tryz.func348, Tryz.ntmps348
  go_wp2_with fail
  refine HG.out.mono ?_
  rintro e w1 ⟨rfl, hb⟩
  have HB := Lib.hid (hb.alloc hb.size (.cells #[.int .u64 k, .int .u64 v] 105))
  clear hb
  go_wp2_with fail
  go_ret
  exact ⟨rfl, HB.out⟩
end Go.Proofs.YtepdkbmnkjfcpaaGreatDoor
