/- The stores that a map of three keys goes through, computed: plain Lean, no program in sight. Ranges of maps: Scan, Back; the reference's rows of pairs: Fine, Long, Same: the walks. -/
import Derived.Test.YtmlmeeiojgkomaaGreatDoorGbm
namespace Go.Proofs.YtmlmeeiojgkomaaGreatDoor
open Lf

def invB (S : St) : Bool :=
  (List.range S.t.slots.length).all fun i =>
    let x := S.t.slots.getD i ⟨0, 0, 0⟩
    x.is != 1 || (decide (S.a.rd (x.addr + 1) ≤ 3998) && decide (x.addr ≤ 1152921504606846976) &&
      (List.range S.t.slots.length).all fun j =>
        let y := S.t.slots.getD j ⟨0, 0, 0⟩
        i == j || y.is != 1 || decide (x.addr + 2 + S.a.rd (x.addr + 1) ≤ y.addr) || decide (y.addr + 2 + S.a.rd (y.addr + 1) ≤ x.addr))
theorem invB_ok {S : St} (h : invB S = true) : Inv S := by
  unfold invB at h
  rw [List.all_eq_true] at h
  have key : ∀ (i : Nat) (hi : i < S.t.slots.length), S.t.slots[i].is = 1 → (S.a.rd (S.t.slots[i].addr + 1) ≤ 3998 ∧ S.t.slots[i].addr ≤ 1152921504606846976) ∧ ∀ (j : Nat) (hj : j < S.t.slots.length), i ≠ j → S.t.slots[j].is = 1 →
      S.t.slots[i].addr + 2 + S.a.rd (S.t.slots[i].addr + 1) ≤ S.t.slots[j].addr ∨ S.t.slots[j].addr + 2 + S.a.rd (S.t.slots[j].addr + 1) ≤ S.t.slots[i].addr := by
    intro i hi h1
    have h2 := h i (List.mem_range.2 hi)
    rw [List.getD_eq_getElem?_getD, List.getElem?_eq_getElem hi] at h2
    simp only [Option.getD_some, h1, bne_self_eq_false, Bool.false_or, Bool.and_eq_true, decide_eq_true_eq] at h2
    obtain ⟨⟨h3, h4⟩, h5⟩ := h2
    refine ⟨⟨h3, h4⟩, fun j hj hij hj1 => ?_⟩
    rw [List.all_eq_true] at h5
    have h6 := h5 j (List.mem_range.2 hj)
    rw [List.getD_eq_getElem?_getD, List.getElem?_eq_getElem hj] at h6
    simp only [Option.getD_some, hj1, bne_self_eq_false, Bool.or_false, Bool.or_eq_true, decide_eq_true_eq, beq_iff_eq] at h6
    rcases h6 with (h6 | h6) | h6
    · exact absurd h6 hij
    · exact Or.inl h6
    · exact Or.inr h6
  exact ⟨fun i hi h1 => (key i hi h1).1, fun i j hi hj hij h1 h2 => (key i hi h1).2 j hj hij h2⟩
def mkB (S : St) (n : Nat) : Bool := decide ((S.t.open (allocH S.a (n + 2)).1.1).1.2 = 0) && invB (S.make n).2
theorem mkB_ok {S : St} {n : Nat} (h : mkB S n = true) : MkOk S n := by
  simp only [mkB, Bool.and_eq_true, decide_eq_true_eq] at h
  exact ⟨h.1, invB_ok h.2⟩
def putB (S : St) (a b : List UInt8) : Bool := decide (a.length ≤ 1000) && decide (b.length ≤ 1000) && mkB S (many a.length) && mkB (putBlob S a).2 (many b.length) &&
  match itemsM S a b with
  | some (_, S1) => mkB S1 6
  | none => true
theorem putB_ok {S : St} {a b : List UInt8} (h : putB S a b = true) : PutOk S a b := by
  simp only [putB, Bool.and_eq_true, decide_eq_true_eq] at h
  obtain ⟨⟨⟨⟨h1, h2⟩, h3⟩, h4⟩, h5⟩ := h
  refine ⟨⟨h1, h2, mkB_ok h3, mkB_ok h4⟩, fun p S1 e => ?_⟩
  rw [e] at h5
  exact mkB_ok h5
def slT (s : Slot) : Nat × Nat × Nat := (s.is, s.gen, s.addr)
theorem slT_inj {s t : Slot} (h : slT s = slT t) : s = t := by
  obtain ⟨a, b, c⟩ := s
  obtain ⟨x, y, z⟩ := t
  simp only [slT, Prod.mk.injEq] at h
  obtain ⟨rfl, rfl, rfl⟩ := h
  rfl
theorem slT_list : ∀ {l m : List Slot}, l.map slT = m.map slT → l = m
  | [], [], _ => rfl
  | [], _ :: _, h => by simp at h
  | _ :: _, [], h => by simp at h
  | a :: l, b :: m, h => by
    simp only [List.map_cons, List.cons.injEq] at h
    rw [slT_inj h.1, slT_list h.2]
def eqS (S T : St) : Bool := S.a.quota == T.a.quota && S.a.pages == T.a.pages && S.t.most == T.t.most && S.t.last == T.t.last && S.t.slots.map slT == T.t.slots.map slT
theorem eqS_ok {S T : St} (h : eqS S T = true) : S = T := by
  obtain ⟨⟨q, p⟩, ⟨m, l, s⟩⟩ := S
  obtain ⟨⟨q', p'⟩, ⟨m', l', s'⟩⟩ := T
  simp only [eqS, Bool.and_eq_true, beq_iff_eq] at h
  obtain ⟨⟨⟨⟨rfl, rfl⟩, rfl⟩, rfl⟩, h5⟩ := h
  rw [slT_list h5]
def runB (jn : Jn) (S : St) (root : Nat) (a b : List UInt8) (x : Nat) (T : St) : Bool := match treePutM jn S root a b with
  | some (y, U) => y == x && eqS U T
  | none => false
theorem runB_ok {jn : Jn} {S T : St} {root x : Nat} {a b : List UInt8} (h : runB jn S root a b x T = true) : treePutM jn S root a b = some (x, T) := by
  unfold runB at h
  split at h
  · rename_i y U e
    simp only [Bool.and_eq_true, beq_iff_eq] at h
    rw [e, h.1, eqS_ok h.2]
  · cases h

def pg (l : List Nat) : Page := l ++ List.replicate (64 - l.length) 0
def abc0 : St := ⟨⟨262144, []⟩, ⟨4000, 4294967295, []⟩⟩
def abc1 : St := ⟨⟨262144, [(0, pg [513, 1, 4294967297, 2, 1, 6989586621679009792]), (1, pg [257, 1, 4294967298, 1]), (2, pg [1025, 1, 4294967299, 6, 4294967297, 4294967298, 0, 0, 1, 1])]⟩, ⟨4000, 4294967295, [⟨1, 1, 2⟩, ⟨1, 1, 66⟩, ⟨1, 1, 130⟩]⟩⟩
def abc2 : St := ⟨⟨262144, [(0, pg [513, 3, 4294967297, 2, 1, 6989586621679009792, 4294967300, 2, 1, 7061644215716937728]), (1, pg [257, 3, 4294967298, 1, 0, 4294967301, 1]), (2, pg [1025, 3, 4294967299, 6, 4294967297, 4294967298, 0, 0, 1, 1, 0, 4294967302, 6, 4294967300, 4294967301, 4294967299, 0, 2, 2])]⟩, ⟨4000, 4294967295, [⟨1, 1, 2⟩, ⟨1, 1, 66⟩, ⟨1, 1, 130⟩, ⟨1, 1, 6⟩, ⟨1, 1, 69⟩, ⟨1, 1, 139⟩]⟩⟩
def abc3 : St := ⟨⟨262144, [(0, pg [513, 7, 4294967297, 2, 1, 6989586621679009792, 4294967300, 2, 1, 7061644215716937728, 4294967303, 2, 1, 7133701809754865664]), (1, pg [257, 7, 4294967298, 1, 0, 4294967301, 1, 0, 4294967304, 1]), (2, pg [1025, 7, 4294967299, 6, 4294967297, 4294967298, 0, 0, 1, 1, 0, 4294967302, 6, 4294967300, 4294967301, 4294967299, 4294967305, 2, 3, 0, 4294967305, 6, 4294967303, 4294967304, 0, 0, 1, 1])]⟩, ⟨4000, 4294967295, [⟨1, 1, 2⟩, ⟨1, 1, 66⟩, ⟨1, 1, 130⟩, ⟨1, 1, 6⟩, ⟨1, 1, 69⟩, ⟨1, 1, 139⟩, ⟨1, 1, 10⟩, ⟨1, 1, 72⟩, ⟨1, 1, 148⟩]⟩⟩
theorem abc_inv0 : Inv abc0 := invB_ok (by decide +kernel)
theorem abc_ok1 : PutOk abc0 [97] [] := putB_ok (by decide +kernel)
theorem abc_run1 : treePutM avlOkM abc0 0 [97] [] = some (4294967299, abc1) := runB_ok (by decide +kernel)
theorem abc_ok2 : PutOk abc1 [98] [] := putB_ok (by decide +kernel)
theorem abc_run2 : treePutM avlOkM abc1 4294967299 [98] [] = some (4294967302, abc2) := runB_ok (by decide +kernel)
theorem abc_ok3 : PutOk abc2 [99] [] := putB_ok (by decide +kernel)
theorem abc_run3 : treePutM avlOkM abc2 4294967302 [99] [] = some (4294967302, abc3) := runB_ok (by decide +kernel)
theorem abc_p1 : placesM abc3 4294967302 [97] [99] false = some (0, 2) := by decide +kernel
theorem abc_p2 : placesM abc3 4294967302 [97] [] true = some (0, 3) := by decide +kernel
theorem abc_p3 : placesM abc3 4294967302 [98] [97] false = some (1, 1) := by decide +kernel
theorem abc_r1 : rangeM abc3 4294967302 0 2 false = some [([97], []), ([98], [])] := by decide +kernel
theorem abc_r2 : rangeM abc3 4294967302 0 3 true = some [([99], []), ([98], []), ([97], [])] := by decide +kernel
end Go.Proofs.YtmlmeeiojgkomaaGreatDoor

namespace Go.Proofs.YtmlmeeiojgkomaaGreatDoor
open Go.RowKit Go.BigFrame Go.Maps Go.WideMaps Lf
open Go.Shelf

set_option maxRecDepth 100000 in
set_option maxHeartbeats 800000 in
theorem span_scan {w : World} {pm px ps limit kind root : Nat} {S : St} {Y : Nat → Prop} (h : StOn w ps S Y) (hi : Inv S) (hM : MapOn w pm px ps limit) (hT : TreeOn w px ps kind root) (hl : root < 18446744073709551616) (fr to : List UInt8) (op : Bool) (most : Nat) (hmost : most < 100000) {p : Nat × Nat} (hp : placesM S root fr to op = some p) {q : List Pr} (hq : rangeM S root p.1 p.2 false = some q) (hql : q.length ≤ 100000) :
    Calls Tryz.prog 6 #[PV pm, SV fr, SV to, .bool op, .int .i64 most] w fun e w' => ∃ v, e = .returned (.tuple #[v, .int .i64 0]) ∧ w'.ownsRow w.heap.size 37 2 v (q.take most).length (prow (q.take most)) ∧ Below w.heap.size w w' := by
  have HG := Lib.hid (callsIn_wide.1 (span_some_in h hi hM hT hl fr to op false most hmost hp hq hql))
  clear h hi hM hT hp hq hql
  go_enter Tryz.func6, Tryz.ntmps6
  go_wp2_with fail
  refine HG.out.mono ?_
  rintro e w1 ⟨v, rfl, hr, hb⟩
  have HR := Lib.hid (And.intro hr hb)
  clear hr hb
  go_wp2_with fail
  go_ret2
  exact ⟨v, rfl, HR.out⟩
set_option maxRecDepth 100000 in
set_option maxHeartbeats 800000 in
theorem span_back {w : World} {pm px ps limit kind root : Nat} {S : St} {Y : Nat → Prop} (h : StOn w ps S Y) (hi : Inv S) (hM : MapOn w pm px ps limit) (hT : TreeOn w px ps kind root) (hl : root < 18446744073709551616) (fr to : List UInt8) (op : Bool) (most : Nat) (hmost : most < 100000) {p : Nat × Nat} (hp : placesM S root fr to op = some p) {q : List Pr} (hq : rangeM S root p.1 p.2 true = some q) (hql : q.length ≤ 100000) :
    Calls Tryz.prog 7 #[PV pm, SV fr, SV to, .bool op, .int .i64 most] w fun e w' => ∃ v, e = .returned (.tuple #[v, .int .i64 0]) ∧ w'.ownsRow w.heap.size 37 2 v (q.take most).length (prow (q.take most)) ∧ Below w.heap.size w w' := by
  have HG := Lib.hid (callsIn_wide.1 (span_some_in h hi hM hT hl fr to op true most hmost hp hq hql))
  clear h hi hM hT hp hq hql
  go_enter Tryz.func7, Tryz.ntmps7
  go_wp2_with fail
  refine HG.out.mono ?_
  rintro e w1 ⟨v, rfl, hr, hb⟩
  have HR := Lib.hid (And.intro hr hb)
  clear hr hb
  go_wp2_with fail
  go_ret2
  exact ⟨v, rfl, HR.out⟩
set_option maxRecDepth 100000 in
set_option maxHeartbeats 400000 in
theorem fine_bin (kind : Nat) (hk : kind = 1 ∨ kind = 2) (t : Int) (w : World) :
    Calls Tryz.prog 17 #[.int .i64 kind, .int .i64 t] w fun e w' => e = .returned (.bool true) ∧ w = w' := by
  rcases hk with rfl | rfl
  all_goals
    go_enter Tryz.func17, Tryz.ntmps17
    go_wp2_with fail
    go_ret
    exact ⟨rfl, rfl⟩

/-- a row of pairs in memory -/
def RowP (w : World) (v : Value) (l : List Pr) : Prop := ∃ g cap, v = .slice (some ⟨g, 0, none⟩) l.length cap ∧ ∀ j u, (prow l)[j]? = some u → w.cell? ⟨g, j, none⟩ = some u
theorem RowP.of_owns {w : World} {B : Nat} {v : Value} {l : List Pr} (h : w.ownsRow B 37 2 v l.length (prow l)) (hl : l ≠ []) : RowP w v l := by
  rcases h.2 with ⟨_, hx⟩ | ⟨g, cap, cur, hv, hb, hg, h1, h2, h3, h4⟩
  · exact absurd (List.length_eq_zero_iff.1 hx) hl
  · refine ⟨g, cap, hv, fun i u hu => ?_⟩
    rw [cell_of_block hg]
    have hi : i < l.length * 2 := by have := (List.getElem?_eq_some_iff.1 hu).1; rw [prow_length] at this; exact this
    rw [← h4, List.getElem?_take_of_lt (by omega), Array.getElem?_toList] at hu
    exact hu
theorem RowP.below {w w' : World} {v : Value} {l : List Pr} (h : RowP w v l) (hb : Below w.heap.size w w') : RowP w' v l := by
  obtain ⟨g, cap, hv, hc⟩ := h
  refine ⟨g, cap, hv, fun j u hu => ?_⟩
  have h1 := hc j u hu
  have hg : g < w.heap.size := by
    unfold World.cell? at h1
    split at h1
    · rename_i heq
      exact (Array.getElem?_eq_some_iff.1 heq).1
    · cases h1
  exact (hb.cell (p := ⟨g, j, none⟩) hg).trans h1

set_option maxRecDepth 100000 in
set_option maxHeartbeats 800000 in
theorem long_three {w : World} {v : Value} {a b c : List UInt8} (h : RowP w v [(a, []), (b, []), (c, [])]) (ha : a.length ≤ 1000) (hb : b.length ≤ 1000) (hc : c.length ≤ 1000) :
    Calls Tryz.prog 18 #[v] w fun e w' => e = .returned (.bool false) ∧ w = w' := by
  obtain ⟨g, cap, rfl, hcl⟩ := h
  have c0 := hcl 0 (SV a) rfl
  have c1 := hcl 1 (SV []) rfl
  have c2 := hcl 2 (SV b) rfl
  have c3 := hcl 3 (SV []) rfl
  have c4 := hcl 4 (SV c) rfl
  have c5 := hcl 5 (SV []) rfl
  clear hcl
  have ha1 : (1000 < (a.length : Int)) = False := eq_false (by omega)
  have hb1 : (1000 < (b.length : Int)) = False := eq_false (by omega)
  have hc1 : (1000 < (c.length : Int)) = False := eq_false (by omega)
  clear ha hb hc
  simp only [List.length_cons, List.length_nil, Nat.reduceAdd]
  go_enter Tryz.func18, Tryz.ntmps18
  go_wp2_with fail
  go_loopw [3] (fun i wr => wr = w ∧ (i = .int .i64 0 ∨ i = .int .i64 1 ∨ i = .int .i64 2 ∨ i = .int .i64 3)) (fun i _ => 3 - (intOf i).toNat)
  case atStart => exact ⟨rfl, Or.inl rfl⟩
  case round =>
    obtain ⟨rfl, hr⟩ := hrel
    rcases hr with rfl | rfl | rfl | rfl
    · go_wp2_with fail
      all_goals exact ⟨⟨trivial, Or.inr (Or.inl rfl)⟩, by simp [intOf]⟩
    · go_wp2_with fail
      all_goals exact ⟨⟨trivial, Or.inr (Or.inr (Or.inl rfl))⟩, by simp [intOf]⟩
    · go_wp2_with fail
      all_goals exact ⟨⟨trivial, Or.inr (Or.inr (Or.inr rfl))⟩, by simp [intOf]⟩
    · go_wp2_with fail
      go_ret
      exact ⟨rfl, rfl⟩

set_option maxRecDepth 100000 in
set_option maxHeartbeats 1600000 in
/-- two rows of the same two pairs -/
theorem same_two {w : World} {v u : Value} {a b : List UInt8} (h : RowP w v [(a, []), (b, [])]) (h' : RowP w u [(a, []), (b, [])])
    (ea : ∀ W, (binOp .neq 37 (.agg #[SV a, SV []]) (.agg #[SV a, SV []])).run Tryz.prog W = .ok (.bool false) W) (eb : ∀ W, (binOp .neq 37 (.agg #[SV b, SV []]) (.agg #[SV b, SV []])).run Tryz.prog W = .ok (.bool false) W) :
    Calls Tryz.prog 11 #[v, u] w fun e w' => e = .returned (.bool true) ∧ Below w.heap.size w w' := by
  obtain ⟨g, cap, rfl, hcl⟩ := h
  obtain ⟨g', cap', rfl, hcl'⟩ := h'
  have HC := Lib.hid (And.intro (And.intro (hcl 0 (SV a) rfl) (And.intro (hcl 1 (SV []) rfl) (And.intro (hcl 2 (SV b) rfl) (hcl 3 (SV []) rfl)))) (And.intro (hcl' 0 (SV a) rfl) (And.intro (hcl' 1 (SV []) rfl) (And.intro (hcl' 2 (SV b) rfl) (hcl' 3 (SV []) rfl)))))
  clear hcl hcl'
  simp only [List.length_cons, List.length_nil, Nat.reduceAdd]
  go_enter Tryz.func11, Tryz.ntmps11
  go_wp2_with fail
  go_loopw [5] (fun i wr => (wr.heap = w.heap ∧ wr.os = w.os ∧ wr.tape = w.tape ∧ wr.output = w.output) ∧ (i = .int .i64 0 ∨ i = .int .i64 1 ∨ i = .int .i64 2)) (fun i _ => 2 - (intOf i).toNat)
  case atStart => exact ⟨⟨rfl, rfl, rfl, rfl⟩, Or.inl rfl⟩
  case round =>
    obtain ⟨hh, hr⟩ := hrel
    have hcw : ∀ g j x, w.cell? ⟨g, j, none⟩ = some x → wr.cell? ⟨g, j, none⟩ = some x := fun g j x h => (World.cell?_of_block (by rw [hh.1])).trans h
    obtain ⟨⟨c0, c1, c2, c3⟩, d0, d1, d2, d3⟩ := HC.out
    replace c0 := hcw _ _ _ c0
    replace c1 := hcw _ _ _ c1
    replace c2 := hcw _ _ _ c2
    replace c3 := hcw _ _ _ c3
    replace d0 := hcw _ _ _ d0
    replace d1 := hcw _ _ _ d1
    replace d2 := hcw _ _ _ d2
    replace d3 := hcw _ _ _ d3
    have HH := Lib.hid hh
    clear hh hcw
    rcases hr with rfl | rfl | rfl
    · go_wp2_with fail
      go_quiet (fail)
      go_wp2_with fail
      exact ⟨⟨HH.out, Or.inr (Or.inl rfl)⟩, by simp [intOf]⟩
    · go_wp2_with fail
      go_quiet (fail)
      go_wp2_with fail
      exact ⟨⟨HH.out, Or.inr (Or.inr rfl)⟩, by simp [intOf]⟩
    · go_wp2_with fail
      go_ret
      exact ⟨rfl, HH.out.2.1, HH.out.2.2.1, HH.out.2.2.2, by rw [HH.out.1]; exact Nat.le_refl _, fun _ _ => by rw [HH.out.1]⟩
end Go.Proofs.YtmlmeeiojgkomaaGreatDoor
