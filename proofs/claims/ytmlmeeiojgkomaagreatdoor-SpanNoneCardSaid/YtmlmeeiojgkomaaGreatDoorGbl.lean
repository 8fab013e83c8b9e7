/- Ranges of maps: places, along; without a map: the walks. Ranges of maps: along: the iterator's contract. -/
import Derived.Test.YtmlmeeiojgkomaaGreatDoorGbk
namespace Go.Proofs.YtmlmeeiojgkomaaGreatDoor
open Go.RowKit Go.BigFrame Go.Maps Go.WideMaps Lf
open Go.Shelf
attribute [local go_sem] Oper.semAt_some

theorem downM_lt (S : St) (k : List UInt8) : ∀ (f root below : Nat) {R : Nat × Nat}, below < 4611686018427387904 → downM S k f root below = some R → R.2 < 4611686018427387904
  | 0, _, _, R, hb, h => by
    rw [downM_zero] at h
    have h := Option.some.inj h
    rw [← h]
    exact hb
  | f + 1, root, below, R, hb, h => by
    rw [downM_succ] at h
    split at h
    · have h := Option.some.inj h
      rw [← h]
      exact hb
    split at h
    · have h := Option.some.inj h
      rw [← h]
      exact hb
    split at h
    · cases h
    split at h
    · exact downM_lt S k f _ _ hb h
    split at h
    · cases h
    split at h
    · split at h
      · cases h
      · rename_i b hn
        exact downM_lt S k f _ _ (by have := num_some hn; omega) h
    · split at h
      · cases h
      · rename_i b hn
        have h := Option.some.inj h
        rw [← h]
        have := num_some hn
        simp only
        omega
theorem rankM_lt {S : St} {root : Nat} {k : List UInt8} {z : Nat} (h : rankM S root k = some z) : z < 4611686018427387904 := by
  unfold rankM at h
  obtain ⟨R, h1, h2⟩ := Option.map_eq_some_iff.1 h
  have := downM_lt S k _ _ _ (by decide) h1
  omega

/-- the places of a range -/
def Lf.placesM (S : St) (root : Nat) (fr to : List UInt8) (op : Bool) : Option (Nat × Nat) :=
  match rankM S root fr, sizeM S root, (if op then some 0 else rankM S root to) with
  | some a, some n, some r => some (a, max a (if op then n else r))
  | _, _, _ => none
theorem placesM_some {S : St} {root : Nat} {fr to : List UInt8} {op : Bool} {p : Nat × Nat} (h : placesM S root fr to op = some p) :
    ∃ n r, rankM S root fr = some p.1 ∧ sizeM S root = some n ∧ (op = false → rankM S root to = some r) ∧ p.2 = max p.1 (if op then n else r) ∧ p.1 < 4611686018427387904 ∧ p.2 < 4611686018427387904 := by
  unfold placesM at h
  split at h
  · rename_i a n r h1 h2 h3
    have h := Option.some.inj h
    subst h
    have l1 := rankM_lt h1
    have l2 := num_some h2
    have l3 : op = false → rankM S root to = some r := fun e => by rw [e] at h3; simpa using h3
    refine ⟨n, r, h1, h2, l3, rfl, l1, ?_⟩
    cases op with
    | true => simp only [if_true]; omega
    | false => have := rankM_lt (l3 rfl); simp only [Bool.false_eq_true, if_false]; omega
  · cases h

set_option maxRecDepth 100000 in
set_option maxHeartbeats 800000 in
theorem span_places {w : World} {pm px ps limit kind root : Nat} {S : St} {Y : Nat → Prop} (h : StOn w ps S Y) (hi : Inv S) (hM : MapOn w pm px ps limit) (hT : TreeOn w px ps kind root) (hl : root < 18446744073709551616) (fr to : List UInt8) (op : Bool) {p : Nat × Nat} (hp : placesM S root fr to op = some p) :
    Calls Tryz.prog 14 #[PV pm, SV fr, SV to, .bool op] w fun e w' => e = .returned (.tuple #[.int .i64 p.1, .int .i64 p.2]) ∧ Below w.heap.size w w' := by
  obtain ⟨n, r, h1, h2, h3, h4, -, -⟩ := placesM_some hp
  obtain ⟨a, b⟩ := p
  simp only at h1 h4 ⊢
  have hr1 := map_rank h hi hM hT hl fr h1
  have hln := fun W (hW : Below w.heap.size w W) => map_len (h.below hW) hi (hM.below hW) (hT.below hW) hl h2
  cases op with
  | true =>
    have hmx : max (a : Int) (n : Int) = (b : Int) := by simp at h4; omega
    have HG := Lib.hid (And.intro hr1 hln)
    clear hr1 hln h hi hM hT hp h1 h2 h3 h4
    go_enter Tryz.func14, Tryz.ntmps14
    go_wp2_with fail
    refine HG.out.1.mono ?_
    rintro e w1 ⟨rfl, hb1⟩
    have H1 := Lib.hid hb1
    clear hb1
    go_wp2_with fail
    refine (HG.out.2 _ H1.out).mono ?_
    rintro e w2 ⟨rfl, hb2⟩
    have H2 := Lib.hid (H1.out.trans (hb2.mono H1.out.size))
    clear hb2
    go_wp2_with fail
    go_ret2
    exact ⟨rfl, H2.out⟩
  | false =>
    have hmx : max (a : Int) (r : Int) = (b : Int) := by simp at h4; omega
    have hr2 := fun W (hW : Below w.heap.size w W) => map_rank (h.below hW) hi (hM.below hW) (hT.below hW) hl to (h3 rfl)
    have HG := Lib.hid (And.intro hr1 (And.intro hln hr2))
    clear hr1 hln hr2 h hi hM hT hp h1 h2 h3 h4
    go_enter Tryz.func14, Tryz.ntmps14
    go_wp2_with fail
    refine HG.out.1.mono ?_
    rintro e w1 ⟨rfl, hb1⟩
    have H1 := Lib.hid hb1
    clear hb1
    go_wp2_with fail
    refine (HG.out.2.1 _ H1.out).mono ?_
    rintro e w2 ⟨rfl, hb2⟩
    have H2 := Lib.hid (H1.out.trans (hb2.mono H1.out.size))
    clear hb2
    go_wp2_with fail
    refine (HG.out.2.2 _ H2.out).mono ?_
    rintro e w3 ⟨rfl, hb3⟩
    have H3 := Lib.hid (H2.out.trans (hb3.mono H2.out.size))
    clear hb3
    go_wp2_with fail
    go_ret2
    exact ⟨rfl, H3.out⟩

set_option maxRecDepth 100000 in
set_option maxHeartbeats 400000 in
theorem span_along (pm : Nat) (a b : Int) (back : Bool) (w : World) :
    Calls Tryz.prog 22 #[PV pm, .int .i64 a, .int .i64 b, .bool back] w fun e w' => e = .returned (.func (.func 36) #[] #[PV (w.heap.size + 1), PV (w.heap.size + 1 + 1), PV (w.heap.size + 1 + 1 + 1), PV w.heap.size]) ∧ w' = (((w.alloc (.cells #[PV pm] 33)).alloc (.cells #[.int .i64 a] 3)).alloc (.cells #[.int .i64 b] 3)).alloc (.cells #[.bool back] 4) := by
  go_enter Tryz.func22, Tryz.ntmps22
  go_wp2
  go_ret
  exact ⟨rfl, rfl⟩

set_option maxRecDepth 100000 in
set_option maxHeartbeats 400000 in
theorem span_some_nil (fr to : List UInt8) (op back : Bool) (most : Int) (w : World) :
    Calls Tryz.prog 12 #[.pointer none, SV fr, SV to, .bool op, .bool back, .int .i64 most] w fun e w' => e = .returned (.tuple #[.slice none 0 0, .int .i64 1]) ∧ Below w.heap.size w w' := by
  have HG := Lib.hid (map_tree_nil (w.alloc (.cells #[.int .i64 most] 3)))
  go_enter Tryz.func12, Tryz.ntmps12
  go_wp2_with fail
  refine HG.out.mono ?_
  rintro e w1 ⟨rfl, rfl⟩
  go_wp2_with fail
  go_ret2
  exact ⟨rfl, (Below.refl _ w).alloc (Nat.le_refl _) _⟩
set_option maxRecDepth 100000 in
set_option maxHeartbeats 400000 in
theorem span_scan_nil (fr to : List UInt8) (op : Bool) (most : Int) (w : World) :
    Calls Tryz.prog 6 #[.pointer none, SV fr, SV to, .bool op, .int .i64 most] w fun e w' => e = .returned (.tuple #[.slice none 0 0, .int .i64 1]) ∧ Below w.heap.size w w' := by
  have HG := Lib.hid (span_some_nil fr to op false most w)
  go_enter Tryz.func6, Tryz.ntmps6
  go_wp2_with fail
  refine HG.out.mono ?_
  rintro e w1 ⟨rfl, hb⟩
  have HB := Lib.hid hb
  clear hb
  go_wp2_with fail
  go_ret2
  exact ⟨rfl, HB.out⟩
set_option maxRecDepth 100000 in
set_option maxHeartbeats 400000 in
theorem span_back_nil (fr to : List UInt8) (op : Bool) (most : Int) (w : World) :
    Calls Tryz.prog 7 #[.pointer none, SV fr, SV to, .bool op, .int .i64 most] w fun e w' => e = .returned (.tuple #[.slice none 0 0, .int .i64 1]) ∧ Below w.heap.size w w' := by
  have HG := Lib.hid (span_some_nil fr to op true most w)
  go_enter Tryz.func7, Tryz.ntmps7
  go_wp2_with fail
  refine HG.out.mono ?_
  rintro e w1 ⟨rfl, hb⟩
  have HB := Lib.hid hb
  clear hb
  go_wp2_with fail
  go_ret2
  exact ⟨rfl, HB.out⟩
set_option maxRecDepth 100000 in
set_option maxHeartbeats 400000 in
theorem span_count_nil (fr to : List UInt8) (op : Bool) (w : World) :
    Calls Tryz.prog 8 #[.pointer none, SV fr, SV to, .bool op] w fun e w' => e = .returned (.tuple #[.int .i64 0, .int .i64 1]) ∧ w = w' := by
  have HG := Lib.hid (map_tree_nil w)
  go_enter Tryz.func8, Tryz.ntmps8
  go_wp2_with fail
  refine HG.out.mono ?_
  rintro e w1 ⟨rfl, rfl⟩
  go_wp2_with fail
  go_ret2
  exact ⟨rfl, rfl⟩
set_option maxRecDepth 100000 in
set_option maxHeartbeats 400000 in
theorem span_delete_nil (fr to : List UInt8) (op : Bool) (w : World) :
    Calls Tryz.prog 9 #[.pointer none, SV fr, SV to, .bool op] w fun e w' => e = .returned (.tuple #[.int .i64 0, .int .i64 1]) ∧ w = w' := by
  have HG := Lib.hid (map_tree_nil w)
  go_enter Tryz.func9, Tryz.ntmps9
  go_wp2_with fail
  refine HG.out.mono ?_
  rintro e w1 ⟨rfl, rfl⟩
  go_wp2_with fail
  go_ret2
  exact ⟨rfl, rfl⟩
set_option maxRecDepth 100000 in
set_option maxHeartbeats 800000 in
theorem span_count {w : World} {pm px ps limit kind root : Nat} {S : St} {Y : Nat → Prop} (h : StOn w ps S Y) (hi : Inv S) (hM : MapOn w pm px ps limit) (hT : TreeOn w px ps kind root) (hl : root < 18446744073709551616) (fr to : List UInt8) (op : Bool) {p : Nat × Nat} (hp : placesM S root fr to op = some p) :
    Calls Tryz.prog 8 #[PV pm, SV fr, SV to, .bool op] w fun e w' => e = .returned (.tuple #[.int .i64 ((p.2 : Int) - p.1), .int .i64 0]) ∧ Below w.heap.size w w' := by
  obtain ⟨n, r, -, -, -, -, l1, l2⟩ := placesM_some hp
  have HG := Lib.hid (And.intro (map_tree hM) (span_places h hi hM hT hl fr to op hp))
  obtain ⟨a, b⟩ := p
  simp only at HG l1 l2 ⊢
  clear h hi hM hT hp
  have hw : IntKind.i64.wrap ((b : Int) - a) = (b : Int) - a := IntWalk.i64_in _ (by omega)
  go_enter Tryz.func8, Tryz.ntmps8
  go_wp2_with fail
  refine HG.out.1.mono ?_
  rintro e w1 ⟨rfl, rfl⟩
  go_wp2_with fail
  refine HG.out.2.mono ?_
  rintro e w2 ⟨rfl, hb⟩
  have HB := Lib.hid hb
  clear hb
  go_wp2_with fail
  go_ret2
  exact ⟨rfl, HB.out⟩
end Go.Proofs.YtmlmeeiojgkomaaGreatDoor

namespace Go.Proofs.YtmlmeeiojgkomaaGreatDoor
open Go.RowKit Go.BigFrame Go.Maps Go.WideMaps Lf
open Go.Shelf
attribute [local go_sem] Oper.semAt_some

abbrev Pr := List UInt8 × List UInt8
abbrev encPr (p : Pr) : Array Value := #[prV p]
/-- what a loop's body may turn: a box, and what lies from n on -/
structure KpN (n bo : Nat) (W W' : World) : Prop where
  size : W.heap.size ≤ W'.heap.size
  block : ∀ k, k < n → k ≠ bo → W'.heap[k]? = W.heap[k]?
theorem KpN.refl (n bo : Nat) (W : World) : KpN n bo W W := ⟨Nat.le_refl _, fun _ _ _ => rfl⟩
theorem KpN.trans {n bo : Nat} {A B C : World} (h : KpN n bo A B) (k : KpN n bo B C) : KpN n bo A C :=
  ⟨Nat.le_trans h.size k.size, fun i h1 h2 => (k.block i h1 h2).trans (h.block i h1 h2)⟩
theorem KpN.below {n bo : Nat} {A B : World} (h : Below n A B) : KpN n bo A B := ⟨h.size, fun k hk _ => h.block k hk⟩
theorem KpN.put {n bo : Nat} (W : World) (l : Nat) (o' : Obj) (hl : n ≤ l) : KpN n bo W (W.putObj l o') :=
  ⟨by simp, fun k hk _ => World.putObj_heap_other (by omega)⟩

/-- where a range of a map lies in memory: the store, the map, its tree, the box that the loop's body fills -/
structure RgAt (w : World) (pm px ps limit kind root : Nat) (S : St) (Y : Nat → Prop) (bo : Nat) : Prop where
  st : StOn w ps S Y
  m : MapOn w pm px ps limit
  t : TreeOn w px ps kind root
  y : Y bo
  b : ∃ v fr, w.heap[bo]? = some (.cells #[v] 26 fr)
  nm : pm ≠ bo
  nx : px ≠ bo
theorem RgAt.kp {w w' : World} {pm px ps limit kind root : Nat} {S : St} {Y : Nat → Prop} {bo : Nat} (h : RgAt w pm px ps limit kind root S Y bo) (hk : KpN w.heap.size bo w w') : StOn w' ps S Y ∧ MapOn w' pm px ps limit ∧ TreeOn w' px ps kind root := by
  obtain ⟨v, fr, hb⟩ := h.b
  exact ⟨h.st.write h.y hb ⟨by decide, by decide⟩ (by simp) hk.size hk.block, (hk.block pm (Array.getElem?_eq_some_iff.1 h.m).1 h.nm).trans h.m, (hk.block px (Array.getElem?_eq_some_iff.1 h.t).1 h.nx).trans h.t⟩

set_option maxRecDepth 100000 in
set_option maxHeartbeats 3200000 in
theorem along_stops {w : World} {pm px ps limit kind root : Nat} {S : St} {Y : Nat → Prop} {bo : Nat} (hA : RgAt w pm px ps limit kind root S Y bo) (hi : Inv S) (hl : root < 18446744073709551616) (a b : Nat) (hb : b < 4611686018427387904) (back : Bool) (q : List Pr) (hn : q.length = b - a) (hab : a ≤ b)
    (hq : ∀ i p, q[i]? = some p → treeAtM S root (if back then b - 1 - i else a + i) = some p) (Ba Bb Bk Bm : Nat)
    (hBa : Ba < w.heap.size ∧ Ba ≠ bo ∧ w.cell? ⟨Ba, 0, none⟩ = some (.int .i64 a)) (hBb : Bb < w.heap.size ∧ Bb ≠ bo ∧ w.cell? ⟨Bb, 0, none⟩ = some (.int .i64 b)) (hBk : Bk < w.heap.size ∧ Bk ≠ bo ∧ w.cell? ⟨Bk, 0, none⟩ = some (.bool back)) (hBm : Bm < w.heap.size ∧ Bm ≠ bo ∧ w.cell? ⟨Bm, 0, none⟩ = some (PV pm)) :
    SeqStopsK Fence.wide 6 Tryz.prog 36 #[PV Ba, PV Bb, PV Bk, PV Bm] encPr (KpN w.heap.size bo) (fun xs => xs = q) (fun pre => pre <+: q) q.length w := fun l J Jx W hW hJ hJx hY h0 => by
  have hfS : Fence.wide.fn 15 := trivial
  have hcell : ∀ (W' : World) (B : Nat) (v : Value), B < w.heap.size ∧ B ≠ bo ∧ w.cell? ⟨B, 0, none⟩ = some v → KpN w.heap.size bo w W' → W'.cell? ⟨B, 0, none⟩ = some v := fun W' B v h hk => (World.cell?_of_block (hk.block B h.1 h.2.1)).trans h.2.2
  have hsel : ∀ (W' : World) (i : Nat) (p : Pr), KpN w.heap.size bo w W' → q[i]? = some p → CallsIn Fence.wide 5 Tryz.prog 15 #[PV pm, .int .i64 ((if back then b - 1 - i else a + i : Nat) : Int)] W' _ := fun W' i p hk hp => callsIn_wide.2 (map_select (hA.kp hk).1 hi (hA.kp hk).2.1 (hA.kp hk).2.2 hl _ (by
    have := (List.getElem?_eq_some_iff.1 hp).1
    split <;> omega) (hq i p hp))
  have k0 : KpN w.heap.size bo w W := KpN.below hW
  have ca := hcell W Ba _ hBa k0
  have cb := hcell W Bb _ hBb k0
  have HG := Lib.hid (And.intro hcell (And.intro hsel (And.intro hBa (And.intro hBb (And.intro hBk hBm)))))
  have HJ := Lib.hid (And.intro hJ (And.intro hJx (And.intro hY (And.intro h0 (And.intro k0 hW)))))
  clear hcell hsel hBa hBb hBk hBm hJ hJx hY h0 k0 hW hq hA hi hl
  obtain ⟨n, hnn⟩ : ∃ n, q.length = n := ⟨_, rfl⟩
  have hq1 : ∀ k p, q[k]? = some p → q.take (k + 1) = q.take k ++ [p] := fun k p hp => by rw [List.take_add_one, hp]; rfl
  have HQ := Lib.hid (And.intro hq1 hnn)
  have Hab := Lib.hid (show b = a + n by omega)
  clear hq1 hnn hn hab
  refine callsIn_of_wp Tryz.func36 rfl trivial ?_ rfl
  simp only [Tryz.ntmps36, List.size_toArray, List.length_cons, List.length_nil, Nat.reduceAdd, Nat.reduceSub, Array.replicate_succ, Array.replicate_zero, List.push_toArray, List.append_toArray, List.nil_append, List.cons_append]
  gi_wp2_with fail
  gi_loopw [6, 7, 8, 9] (fun k _ _ _ wr => ∃ i : Nat, i ≤ n ∧ k = .int .i64 ((a : Int) + i) ∧ Hid (KpN w.heap.size bo w wr ∧ W.heap.size ≤ wr.heap.size ∧ J (q.take i) wr)) (fun k _ _ _ _ => b - (intOf k).toNat)
  case atStart => exact ⟨0, by omega, by simp, HJ.out.2.2.2.2.1, Nat.le_refl _, HJ.out.2.2.2.1⟩
  case round =>
    obtain ⟨i, hi, rfl, hin⟩ := hrel
    have hnab := Hab.out
    by_cases hlt : i < n
    · have cb := HG.out.1 wr Bb _ HG.out.2.2.2.1 hin.out.1
      have ca := HG.out.1 wr Ba _ HG.out.2.2.1 hin.out.1
      have ck := HG.out.1 wr Bk _ HG.out.2.2.2.2.1 hin.out.1
      have cm := HG.out.1 wr Bm _ HG.out.2.2.2.2.2 hin.out.1
      obtain ⟨p, hp⟩ : ∃ p, q[i]? = some p := ⟨q[i]'(by rw [HQ.out.2]; exact hlt), List.getElem?_eq_getElem _⟩
      have hse := HG.out.2.1 wr i p hin.out.1 hp
      have hse : ∀ z : Int, z = ((if back then b - 1 - i else a + i : Nat) : Int) → CallsIn Fence.wide 5 Tryz.prog 15 #[PV pm, .int .i64 z] wr _ := fun z hz => by rw [hz]; exact hse
      have hpl : (q.take i).length = i := by rw [List.length_take, HQ.out.2]; omega
      have hJX := hin.out.2.2
      have hlt' : ((a : Int) + i < (b : Int)) = True := eq_true (by omega)
      have ab0 : IntKind.i64.wrap ((a : Int) + i + 1) = (a : Int) + i + 1 := IntWalk.i64_in _ (by omega)
      have ab1 : IntKind.i64.wrap ((a : Int) + b) = (a : Int) + b := IntWalk.i64_in _ (by omega)
      have ab2 : IntKind.i64.wrap ((a : Int) + b - 1) = (a : Int) + b - 1 := IntWalk.i64_in _ (by omega)
      have ab3 : IntKind.i64.wrap ((a : Int) + b - 1 - ((a : Int) + i)) = (a : Int) + b - 1 - ((a : Int) + i) := IntWalk.i64_in _ (by omega)
      have HV := Lib.hid (HQ.out.1 i p hp)
      obtain ⟨p1, p2⟩ := p
      simp only [prV] at hse
      cases back with
      | true =>
        have hs1 := hse ((a : Int) + b - 1 - ((a : Int) + i)) (by simp only [if_true]; omega)
        have HS := Lib.hid (And.intro hs1 (And.intro hJX hpl))
        clear hse hs1 hJX hpl hp hnab
        gi_wp2_with fail
        refine HS.out.1.mono ?_
        rintro e w2 ⟨rfl, hb2⟩
        have hb3 := hb2.alloc hb2.size (.cells #[SV p1, SV p2] 37)
        have hJ3 := HJ.out.1 _ _ _ none HS.out.2.1 (grown_of_below hb3) (fun r e => by cases e)
        obtain ⟨fn, tmps, assign, body, hy, hRd⟩ := HJ.out.2.2.1 (q.take i) (p1, p2) _ hJ3 (by rw [HS.out.2.2, HQ.out.2]; exact hlt)
        dsimp only [encPr, prV] at hy
        have k3 : KpN w.heap.size bo w (w2.alloc (.cells #[SV p1, SV p2] 37)) := hin.out.1.trans (KpN.below (hb3.mono (Nat.le_trans HJ.out.2.2.2.2.2.size hin.out.2.1)))
        have s3 := hb3.size
        have H3 := Lib.hid (And.intro k3 s3)
        clear hb2 hb3 hJ3 k3 s3
        gi_wp2_with fail
        refine hRd.mono ?_
        rintro e w4 (⟨rfl, hJ4, hk4⟩ | ⟨rfl, hJx4⟩)
        · have H4 := Lib.hid (And.intro (H3.out.1.trans hk4) (And.intro (Nat.le_trans H3.out.2 hk4.size) hJ4))
          clear hJ4 hk4 hy hRd
          gi_wp2_with fail
          go_roundw
          case rel => exact ⟨i + 1, by omega, by simp; omega, H4.out.1, Nat.le_trans hin.out.2.1 H4.out.2.1, by rw [HV.out]; exact H4.out.2.2⟩
          case measure => have hnab := Hab.out; simp [intOf]; omega
        · have H4 := Lib.hid hJx4
          clear hJx4 hy hRd
          gi_wp2_with fail
          refine bodyPost_ret (results_none rfl _ _ _) rfl ?_
          exact ⟨⟨_, rfl⟩, .inr ⟨_, ⟨q.drop (i + 1), by rw [← HV.out]; exact List.take_append_drop _ _⟩, H4.out⟩⟩
      | false =>
        have hs1 := hse ((a : Int) + i) (by simp)
        have HS := Lib.hid (And.intro hs1 (And.intro hJX hpl))
        clear hse hs1 hJX hpl hp hnab
        gi_wp2_with fail
        refine HS.out.1.mono ?_
        rintro e w2 ⟨rfl, hb2⟩
        have hb3 := hb2.alloc hb2.size (.cells #[SV p1, SV p2] 37)
        have hJ3 := HJ.out.1 _ _ _ none HS.out.2.1 (grown_of_below hb3) (fun r e => by cases e)
        obtain ⟨fn, tmps, assign, body, hy, hRd⟩ := HJ.out.2.2.1 (q.take i) (p1, p2) _ hJ3 (by rw [HS.out.2.2, HQ.out.2]; exact hlt)
        dsimp only [encPr, prV] at hy
        have k3 : KpN w.heap.size bo w (w2.alloc (.cells #[SV p1, SV p2] 37)) := hin.out.1.trans (KpN.below (hb3.mono (Nat.le_trans HJ.out.2.2.2.2.2.size hin.out.2.1)))
        have s3 := hb3.size
        have H3 := Lib.hid (And.intro k3 s3)
        clear hb2 hb3 hJ3 k3 s3
        gi_wp2_with fail
        refine hRd.mono ?_
        rintro e w4 (⟨rfl, hJ4, hk4⟩ | ⟨rfl, hJx4⟩)
        · have H4 := Lib.hid (And.intro (H3.out.1.trans hk4) (And.intro (Nat.le_trans H3.out.2 hk4.size) hJ4))
          clear hJ4 hk4 hy hRd
          gi_wp2_with fail
          go_roundw
          case rel => exact ⟨i + 1, by omega, by simp; omega, H4.out.1, Nat.le_trans hin.out.2.1 H4.out.2.1, by rw [HV.out]; exact H4.out.2.2⟩
          case measure => have hnab := Hab.out; simp [intOf]; omega
        · have H4 := Lib.hid hJx4
          clear hJx4 hy hRd
          gi_wp2_with fail
          refine bodyPost_ret (results_none rfl _ _ _) rfl ?_
          exact ⟨⟨_, rfl⟩, .inr ⟨_, ⟨q.drop (i + 1), by rw [← HV.out]; exact List.take_append_drop _ _⟩, H4.out⟩⟩
    · obtain rfl : i = n := by omega
      have cb := HG.out.1 wr Bb _ HG.out.2.2.2.1 hin.out.1
      have hlt' : ((a : Int) + i < (b : Int)) = False := eq_false (by omega)
      clear hnab
      gi_wp2
      go_end0
      have hJX := hin.out.2.2
      rw [List.take_of_length_le (by rw [HQ.out.2]; exact Nat.le_refl _)] at hJX
      exact ⟨⟨_, rfl⟩, .inl ⟨_, rfl, hJX⟩⟩
end Go.Proofs.YtmlmeeiojgkomaaGreatDoor
