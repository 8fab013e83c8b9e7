/- Ranges of maps: some, Scan, Back: the walks. -/
import Derived.Test.YtmlmeeiojgkomaaGreatDoorGbl
import Derived.Test.YtmlmeeiojgkomaaGreatDoorGat
namespace Go.Proofs.YtmlmeeiojgkomaaGreatDoor
open Go.RowKit Go.BigFrame Go.Maps Go.WideMaps Lf
open Go.Shelf
attribute [local go_sem] Oper.semAt_some

theorem infoPr : (Tryz.prog.info? 37).map (fun i => (i.zero, i.size, i.bytes)) = some (some (.agg #[.string ⟨#[]⟩, .string ⟨#[]⟩]), 2, 32) := by kernel_rfl
/-- a row of pairs, cell by cell -/
def prow (l : List Pr) : List Value := l.flatMap fun p => [SV p.1, SV p.2]
theorem prow_snoc (l : List Pr) (p : Pr) : prow (l ++ [p]) = prow l ++ [SV p.1, SV p.2] := by simp [prow]
theorem prow_length (l : List Pr) : (prow l).length = l.length * 2 := by
  unfold prow
  induction l with
  | nil => rfl
  | cons a l ih => simp only [List.flatMap_cons, List.length_append, List.length_cons, List.length_nil, ih]; omega

/-- the pairs of a range, in a told order -/
def Lf.rangeM (S : St) (root a b : Nat) (back : Bool) : Option (List (List UInt8 × List UInt8)) :=
  ((List.range (b - a)).mapM (m := Option) fun i => treeAtM S root (if back then b - 1 - i else a + i))
theorem rangeM_some {S : St} {root a b : Nat} {back : Bool} {q : List Pr} (h : rangeM S root a b back = some q) : q.length = b - a ∧ ∀ i p, q[i]? = some p → treeAtM S root (if back then b - 1 - i else a + i) = some p := by
  have key : ∀ (l : List Nat) (q : List Pr), ((l.mapM fun i => treeAtM S root (if back then b - 1 - i else a + i)) : Option (List Pr)) = some q → q.length = l.length ∧ ∀ (i : Nat) (p : Pr) (j : Nat), q[i]? = some p → l[i]? = some j → treeAtM S root (if back then b - 1 - j else a + j) = some p := by
    intro l
    induction l with
    | nil => intro q h; simp at h; subst h; exact ⟨rfl, fun i p j h => by simp at h⟩
    | cons x l ih =>
      intro q h
      rw [List.mapM_cons] at h
      obtain ⟨p0, h1, h2⟩ := Option.bind_eq_some_iff.1 h
      obtain ⟨q', h3, h4⟩ := Option.bind_eq_some_iff.1 h2
      have h4 := Option.some.inj h4
      subst h4
      obtain ⟨i1, i2⟩ := ih q' h3
      refine ⟨by simp [i1], fun i p j hp hj => ?_⟩
      cases i with
      | zero => simp at hp hj; subst hp hj; exact h1
      | succ i => simp at hp hj; exact i2 i p j hp hj
  obtain ⟨h1, h2⟩ := key _ _ h
  refine ⟨by simpa using h1, fun i p hp => h2 i p i hp ?_⟩
  have := (List.getElem?_eq_some_iff.1 hp).1
  rw [List.length_range] at h1
  rw [List.getElem?_range (by omega)]

/-- the row that a loop fills, in its box -/
def OutAt (bo n : Nat) (pre : List Pr) (W : World) : Prop := ∃ v, W.heap[bo]? = some (.cells #[v] 26 (0, 0)) ∧ W.ownsRow n 37 2 v pre.length (prow pre)
theorem out_own (bo n : Nat) : Own (fun (pre : List Pr) W => OutAt bo n pre W) := fun s A B row hs hg hr => by
  obtain ⟨v, hv, hrow⟩ := hs
  refine ⟨v, (hg.block _ (Array.getElem?_eq_some_iff.1 hv).1 (fun e => ?_)).trans hv, ownsRow_own hrow hg hr⟩
  obtain ⟨o, ho, hc⟩ := hr _ e.symm
  rw [hv] at ho
  injection ho with ho
  subst ho
  cases hc
theorem cell_two_new (W : World) (u v : Value) (t : TypeId) : ∀ (j : Nat) (x : Value), [u, v][j]? = some x → (W.alloc (.cells #[u, v] t)).cell? ((⟨W.heap.size, 0, none⟩ : Addr).add j) = some x := fun j x hx => by
  have hadd : (⟨W.heap.size, 0, none⟩ : Addr).add j = ⟨W.heap.size, j, none⟩ := by unfold Addr.add; split <;> simp_all
  rw [hadd, cell_of_block (heap_alloc_new W _), ← hx]
  simp
theorem ownsRow_base {w : World} {B B' : Nat} {e : TypeId} {size : Nat} {v : Value} {n : Nat} {xs : List Value} (h : w.ownsRow B e size v n xs) (hB : B' ≤ B) : w.ownsRow B' e size v n xs :=
  ⟨h.1, h.2.imp id fun ⟨g, cap, cur, h1, h2, h3⟩ => ⟨g, cap, cur, h1, Nat.le_trans hB h2, h3⟩⟩
theorem kpN_own (n bo : Nat) (W0 : World) (hn : n ≤ W0.heap.size) : OwnFrom n (fun (_ : List Pr) W => KpN n bo W0 W) := fun s A B row hs hg hr =>
  hs.trans ⟨hg.size, fun k hk _ => hg.block k (Nat.lt_of_lt_of_le (Nat.lt_of_lt_of_le hk hn) hs.size) (fun e => by have := (hr k e.symm).1; omega)⟩

set_option maxRecDepth 100000 in
set_option maxHeartbeats 6400000 in
theorem span_some_in {w : World} {pm px ps limit kind root : Nat} {S : St} {Y : Nat → Prop} (h : StOn w ps S Y) (hi : Inv S) (hM : MapOn w pm px ps limit) (hT : TreeOn w px ps kind root) (hl : root < 18446744073709551616) (fr to : List UInt8) (op back : Bool) (most : Nat) (hmost : most < 100000) {p : Nat × Nat} (hp : placesM S root fr to op = some p) {q : List Pr} (hq : rangeM S root p.1 p.2 back = some q) (hql : q.length ≤ 100000) :
    CallsIn Fence.wide 7 Tryz.prog 12 #[PV pm, SV fr, SV to, .bool op, .bool back, .int .i64 most] w fun e w' => ∃ v, e = .returned (.tuple #[v, .int .i64 0]) ∧ w'.ownsRow w.heap.size 37 2 v (q.take most).length (prow (q.take most)) ∧ Below w.heap.size w w' := by
  have h1 : 1 ≤ 7 := by omega
  obtain ⟨i0, hii, hz0, hz1, hz2⟩ := info_parts infoPr
  obtain ⟨n0, r0, -, -, -, hp2, pl1, pl2⟩ := placesM_some hp
  obtain ⟨hqn, hqi⟩ := rangeM_some hq
  have hab : p.1 ≤ p.2 := by rw [hp2]; exact Nat.le_max_left _ _
  have hfT : Fence.wide.fn 13 := trivial
  have hfP : Fence.wide.fn 14 := trivial
  have hfA : Fence.wide.fn 22 := trivial
  have htr : ∀ W, Below w.heap.size w W → CallsIn Fence.wide 6 Tryz.prog 13 #[PV pm] W _ := fun W hW => callsIn_wide.2 (map_tree (hM.below hW))
  have hpl : ∀ W, Below w.heap.size w W → CallsIn Fence.wide 6 Tryz.prog 14 #[PV pm, SV fr, SV to, .bool op] W _ := fun W hW => callsIn_wide.2 (span_places (h.below hW) hi (hM.below hW) (hT.below hW) hl fr to op hp)
  obtain ⟨a, b⟩ := p
  simp only at hpl hqn hqi hab pl1 pl2
  have hal : ∀ W, CallsIn Fence.wide 6 Tryz.prog 22 #[PV pm, .int .i64 a, .int .i64 b, .bool back] W _ := fun W => callsIn_wide.2 (span_along pm a b back W)
  have hm0 : ((most : Int) < 0) = False := eq_false (by omega)
  have k0 := (Bx.new w (.int .i64 most) 3)
  have B0 := (Below.refl w.heap.size w).alloc (Nat.le_refl _) (.cells #[.int .i64 most] 3)
  have z0 : (w.alloc (.cells #[.int .i64 most] 3)).heap.size = w.heap.size + 1 := by simp
  have HG := Lib.hid (And.intro htr (And.intro hpl (And.intro hal (And.intro h (And.intro hi (And.intro hM (And.intro hT hqi)))))))
  clear htr hpl hal h hi hM hT hqi hp hq hp2
  refine callsIn_of_wp_marks Tryz.func12 rfl trivial ?_ rfl
  simp only [Tryz.ntmps12, List.size_toArray, List.length_cons, List.length_nil, Nat.reduceAdd, Nat.reduceSub, Array.replicate_succ, Array.replicate_zero, List.push_toArray, List.append_toArray, List.nil_append, List.cons_append]
  gi_wp2_with fail
  generalize w.alloc (.cells #[.int .i64 most] 3) = w0 at *
  refine (HG.out.1 _ B0).mono ?_
  rintro e w1 ⟨rfl, rfl⟩
  have k00 := k0.1
  have k1 := k0.alloc (.cells #[.slice none 0 0] 26)
  have q1 := heap_alloc_new w0 (.cells #[.slice none 0 0] 26)
  have B1 := B0.alloc B0.size (.cells #[.slice none 0 0] 26)
  have z1 : (w0.alloc (.cells #[.slice none 0 0] 26)).heap.size = w.heap.size + 2 := by simp [z0]
  rw [z0] at q1
  have H0 := Lib.hid (And.intro k1 (And.intro q1 (And.intro B1 z1)))
  clear k0 B0 k1 q1 B1 z1
  gi_wp2_with fail
  generalize w0.alloc (.cells #[.slice none 0 0] 26) = w1 at *
  refine (HG.out.2.1 _ H0.out.2.2.1).mono ?_
  rintro e w2 ⟨rfl, hb2⟩
  have H2 := Lib.hid (And.intro (H0.out.1.below hb2 (by have := H0.out.2.2.2; omega)) (And.intro ((hb2.block (w.heap.size + 1) (by have := H0.out.2.2.2; omega)).trans H0.out.2.1) (And.intro (H0.out.2.2.1.trans (hb2.mono H0.out.2.2.1.size)) (show w.heap.size + 2 ≤ w2.heap.size by have := hb2.size; have := H0.out.2.2.2; omega))))
  clear hb2 k00
  gi_wp2_with fail
  refine (HG.out.2.2.1 _).mono ?_
  rintro e w3 ⟨rfl, rfl⟩
  gi_wp2_with fail
  have y0 := (((Bx.new w2 (PV pm) 33).alloc (.cells #[.int .i64 a] 3)).alloc (.cells #[.int .i64 b] 3)).alloc (.cells #[.bool back] 4)
  have y1 := ((Bx.new (w2.alloc (.cells #[PV pm] 33)) (.int .i64 a) 3).alloc (.cells #[.int .i64 b] 3)).alloc (.cells #[.bool back] 4)
  have y2 := (Bx.new ((w2.alloc (.cells #[PV pm] 33)).alloc (.cells #[.int .i64 a] 3)) (.int .i64 b) 3).alloc (.cells #[.bool back] 4)
  have y3 := Bx.new (((w2.alloc (.cells #[PV pm] 33)).alloc (.cells #[.int .i64 a] 3)).alloc (.cells #[.int .i64 b] 3)) (.bool back) 4
  have A3 := ((((Below.refl w2.heap.size w2).alloc (Nat.le_refl _) (.cells #[PV pm] 33)).alloc (by simp) (.cells #[.int .i64 a] 3)).alloc (by simp; omega) (.cells #[.int .i64 b] 3)).alloc (by simp; omega) (.cells #[.bool back] 4)
  have z3 : ((((w2.alloc (.cells #[PV pm] 33)).alloc (.cells #[.int .i64 a] 3)).alloc (.cells #[.int .i64 b] 3)).alloc (.cells #[.bool back] 4)).heap.size = w2.heap.size + 4 := by simp
  simp only [World.size_alloc] at y1 y2 y3
  generalize ((((w2.alloc (.cells #[PV pm] 33)).alloc (.cells #[.int .i64 a] 3)).alloc (.cells #[.int .i64 b] 3)).alloc (.cells #[.bool back] 4)) = W0 at *
  have H3 := Lib.hid (And.intro (H2.out.1.below A3 (by have := H2.out.2.2.2; omega)) (And.intro ((A3.block (w.heap.size + 1) (by have := H2.out.2.2.2; omega)).trans H2.out.2.1) (H2.out.2.2.1.trans (A3.mono H2.out.2.2.1.size))))
  have H2s := Lib.hid H2.out.2.2.2
  clear A3 H2
  generalize w2.heap.size = s2 at *
  have hRg : RgAt W0 pm px ps limit kind root S (fun k => Y k ∨ (w.heap.size ≤ k ∧ k < W0.heap.size)) (w.heap.size + 1) :=
    ⟨HG.out.2.2.2.1.wide H3.out.2.2, HG.out.2.2.2.2.2.1.below H3.out.2.2, HG.out.2.2.2.2.2.2.1.below H3.out.2.2, Or.inr ⟨by omega, by have := H2s.out; omega⟩, ⟨_, _, H3.out.2.1⟩, by have := (Array.getElem?_eq_some_iff.1 HG.out.2.2.2.2.2.1).1; omega, by have := (Array.getElem?_eq_some_iff.1 HG.out.2.2.2.2.2.2.1).1; omega⟩
  have hcl : ∀ (B : Nat) (v : Value), Bx W0 B v → s2 ≤ B → B < W0.heap.size ∧ B ≠ w.heap.size + 1 ∧ W0.cell? ⟨B, 0, none⟩ = some v := fun B v hx hB => ⟨Cx.lt (show Cx W0 _ 0 _ from hx), by have := H2s.out; omega, hx.1⟩
  refine wpIn_rangeFunc_ownH rfl h1 (gf := 36) (lb := #[PV (s2 + 1), PV (s2 + 1 + 1), PV (s2 + 1 + 1 + 1), PV s2]) rfl trivial (enters_of Tryz.func36 (by kernel_rfl) rfl)
    (along_stops hRg HG.out.2.2.2.2.1 hl a b pl2 back q hqn hab HG.out.2.2.2.2.2.2.2 _ _ _ _ (hcl _ _ y1 (by omega)) (hcl _ _ y2 (by omega)) (hcl _ _ y3 (by omega)) (hcl _ _ y0 (Nat.le_refl _))) KpN.trans (fun W l o o' h1 h2 h3 h4 => KpN.put W l o' h1) (Below.refl _ _) (fun _ => rfl)
    (fun pre W => OutAt (w.heap.size + 1) W0.heap.size pre W ∧ (KpN W0.heap.size (w.heap.size + 1) W0 W ∧ Below w.heap.size w W) ∧ pre.length ≤ most)
    (fun c xs W => c = .exit 1 ∧ ∃ pre x, xs = pre ++ [x] ∧ pre.length = most ∧ OutAt (w.heap.size + 1) W0.heap.size pre W ∧ (KpN W0.heap.size (w.heap.size + 1) W0 W ∧ Below w.heap.size w W))
    ?o1 ?o2 ?o3
    (fun x a' W => ∃ b17, W0.heap.size ≤ b17 ∧ W.heap[b17]? = some (.cells #[SV x.1, SV x.2] 37) ∧ a' = { tmps := #[PV pm, SV fr, SV to, .bool op, .bool back, .int .i64 most, undef, undef, undef, undef, undef, .pointer (some ⟨w.heap.size, 0, none⟩), .slice none 0 0, .int .i64 0, .pointer (some ⟨w.heap.size + 1, 0, none⟩), .int .i64 a, .int .i64 b, PV b17, .bool false, PV pm, PV px, .bool false, .bool false, .int .i64 most, .bool false, .tuple #[.int .i64 a, .int .i64 b], PV pm, SV fr, SV to, .bool op, .tuple #[.int .i64 a, .int .i64 b], .int .i64 a, .int .i64 b, PV pm, .int .i64 a, .int .i64 b, .bool back, .func (.func 36) #[] #[PV (s2 + 1), PV (s2 + 1 + 1), PV (s2 + 1 + 1 + 1), PV s2], .agg #[SV x.1, SV x.2], undef, undef, undef, undef, undef, undef, undef, undef, undef], defers := [] })
    ?o4 ?assign ?body ?done ?stop
  case o1 => exact OwnFrom.and (Own.from (out_own _ _) _) (OwnFrom.and (OwnFrom.and (kpN_own _ _ _ (Nat.le_refl _)) (ownFrom_below (Nat.le_refl _) H3.out.2.2.size)) (fun s A B row hs hg hr => hs))
  case o2 =>
    rintro c s A B row ⟨hc, pre, x, e, hl, ho, hk, hb⟩ hg hr
    exact ⟨hc, pre, x, e, hl, out_own _ _ pre A B row ho hg (fun r e => (hr r e).2), kpN_own _ _ _ (Nat.le_refl _) pre A B row hk hg hr, ownFrom_below (β := List Pr) (Nat.le_refl _) H3.out.2.2.size pre A B row hb hg hr⟩
  case o3 => exact ⟨⟨_, H3.out.2.1, rfl, Or.inl ⟨rfl, rfl⟩⟩, ⟨KpN.refl _ _ _, H3.out.2.2⟩, Nat.zero_le _⟩
  case o4 =>
    rintro x a' _ A B row ⟨b17, hl, hb, e⟩ hg hr
    refine ⟨b17, hl, (hg.block _ (Array.getElem?_eq_some_iff.1 hb).1 (fun e => ?_)).trans hb, e⟩
    obtain ⟨-, o, ho, hc⟩ := hr _ e.symm
    rw [hb] at ho
    injection ho with ho
    subst ho
    cases hc
  case assign =>
    rintro l pre x W K hI hK
    have HK := Lib.hid hK
    have HI := Lib.hid hI
    clear hK hI
    simp only [encPr, prV]
    gi_wp2
    have hbl := (Below.refl W.heap.size W).alloc (Nat.le_refl _) (.cells #[SV x.1, SV x.2] 37)
    refine HK.out _ _ ((KeepsOthers.alloc _ _).from _) (KpN.below (hbl.mono HI.out.2.1.1.size)) ⟨?_, ⟨HI.out.2.1.1.trans (KpN.below (hbl.mono HI.out.2.1.1.size)), HI.out.2.1.2.trans (hbl.mono HI.out.2.1.2.size)⟩, HI.out.2.2⟩ ⟨W.heap.size, HI.out.2.1.1.size, heap_alloc_new _ _, rfl⟩
    exact out_own _ _ pre W _ none HI.out.1 (World.grownBy_alloc W _ none) (fun r e => by cases e)
  case body =>
    rintro l pre ⟨x1, x2⟩ a' W hl _ ⟨⟨v, hv, hrow⟩, ⟨hk, hB⟩, hlm⟩ ⟨b17, hb17, hx17, rfl⟩ hlt
    simp only at hx17
    obtain ⟨m, hm⟩ : ∃ m, pre.length = m := ⟨_, rfl⟩
    have hmN : m ≤ 100000 := by omega
    obtain ⟨ao, cap, rfl⟩ : ∃ ao cap, v = .slice ao pre.length cap := by
      rcases hrow.2 with ⟨rfl, h0⟩ | ⟨g, cap, cur, rfl, _⟩
      · exact ⟨none, 0, by rw [h0]⟩
      · exact ⟨_, _, rfl⟩
    rw [hm] at hv hrow hlm
    obtain ⟨c1, f1⟩ := heap_box hv
    have cm : W.cell? ⟨w.heap.size, 0, none⟩ = some (.int .i64 most) := (World.cell?_of_block (hk.block w.heap.size (by have := H2s.out; have := Cx.lt (show Cx W0 s2 0 _ from y0); omega) (by omega))).trans H3.out.1.1
    have d0 : (W).cell? ⟨b17, 0, none⟩ = some (SV x1) := by rw [cell_of_block hx17]; rfl
    have d1 : (W).cell? ⟨b17, 1, none⟩ = some (SV x2) := by rw [cell_of_block hx17]; rfl
    have HI := Lib.hid (And.intro hv (And.intro hrow (And.intro hB (And.intro hk (And.intro hlt hl)))))
    have HM := Lib.hid hm
    clear hv hrow hB hk hlt hl hx17 hm
    by_cases hmm : m = most
    · subst hmm
      gi_wp2_with fail
      refine ⟨KeepsFrom.refl _ _, rfl, pre, (x1, x2), rfl, HM.out, ⟨_, HI.out.1, ?_⟩, HI.out.2.2.2.1, HI.out.2.2.1⟩
      rw [HM.out]
      exact HI.out.2.1
    · have hq0 : ((m : Int) == most) = false := by simp; omega
      gi_wp2_with (gi_at_builtin; refine wpListIn_append_own_at _ rfl _ _ 26 rfl W0.heap.size 37 i0 (.agg #[.string ⟨#[]⟩, .string ⟨#[]⟩]) 2 32 Tryz.underlying26 hii hz0 hz1 hz2 rfl (by decide) _ _ _ rfl (HI.out.2.1.alloc _) ⟨W.heap.size, 0, none⟩ 1 1 [SV x1, SV x2] rfl rfl (cell_two_new _ _ _ _) ?c2 ?c3 ?c4 ?c5 ?_)
      case c2 => simp [Value.oneCell', SV]
      case c3 => unfold maxLen; omega
      case c4 => omega
      case c5 => have := HI.out.2.2.2.1.size; simp; omega
      intro v' w1 hown hgrow _ hat
      obtain ⟨g', cap', cur', rfl, hbase', hgb', hr1, hr2, hr3, hr4⟩ := hown.2.resolve_left (by rintro ⟨_, h⟩; exact absurd h (by simp))
      obtain ⟨hv, hrow, hB, hk, hlt, hl⟩ := HI.out
      have hBW := hB.size
      have hkW := hk.size
      have hbl := (Array.getElem?_eq_some_iff.1 hv).1
      have hbo : w.heap.size + 1 < W0.heap.size := by have := H2s.out; have := Cx.lt (show Cx W0 s2 0 _ from y0); omega
      have hne : ∀ k, (Value.slice ao m cap).ownBlock = some k → W0.heap.size ≤ k := fun k e => (hrow.lt k e).1
      have hold : ∀ k, k < W0.heap.size → w1.heap[k]? = W.heap[k]? := fun k hk1 => by
        rw [hgrow.block k (by simp; omega) (fun e => by have := hne k e.symm; omega), heap_alloc_old W _ (by omega)]
      have hv1 : w1.heap[w.heap.size + 1]? = some (.cells #[.slice ao m cap] 26 (0, 0)) := (hold _ hbo).trans hv
      have hg' : g' ≠ w.heap.size + 1 := by omega
      have hbA : Below w.heap.size W w1 := ((Below.refl _ W).mono hBW |>.alloc hBW (.cells #[SV x1, SV x2] 37)).grown hgrow (by simp; omega) (fun k e => by have := hne k e; have := H3.out.2.2.size; omega)
      have hk1 : KeepsFrom W0.heap.size W w1 := ((KeepsOthers.alloc W (.cells #[SV x1, SV x2] 37)).from _).trans (keepsFrom_of_row (hrow.alloc _) hgrow)
      have kp1 : KpN W0.heap.size (w.heap.size + 1) W w1 := ⟨hbA.size, fun k h1 _ => hold k h1⟩
      obtain ⟨d1, e1⟩ := heap_box hv1
      have HW := Lib.hid (And.intro hv1 (And.intro hgb' (And.intro hg' (And.intro hbA (And.intro hk1 (And.intro hown (And.intro hbase' (And.intro kp1 (And.intro hr1 (And.intro hr2 (And.intro hr3 hr4)))))))))))
      clear hv1 hgb' hg' hbA hk1 hown hbase' hr1 hr2 hr3 hr4 hgrow hat hne hbl hBW hv hrow hB hlt hl hk kp1 hold hkW hbo
      gi_wp2_with fail
      have kp2 : KpN W0.heap.size (w.heap.size + 1) W (w1.setCell ⟨w.heap.size + 1, 0, none⟩ (.slice (some ⟨g', 0, none⟩) (m + 1) cap')) := HW.out.2.2.2.2.2.2.2.1.trans ⟨by simp, fun k _ h2 => heap_setCell_ne h2⟩
      have hbB := HW.out.2.2.2.1.setCell (p := ⟨w.heap.size + 1, 0, none⟩) (Nat.le_succ w.heap.size) (.slice (some ⟨g', 0, none⟩) (m + 1) cap')
      refine ⟨HW.out.2.2.2.2.1.trans ((KeepsOthers.setCell _ _ _).from _), kp2, ⟨_, heap_setCell HW.out.1, ?_⟩, ⟨HI.out.2.2.2.1.trans kp2, HI.out.2.2.1.trans hbB⟩, by simp only [List.length_append, List.length_cons, List.length_nil, HM.out]; omega⟩
      have hl1 : (pre ++ [((x1, x2) : Pr)]).length = m + 1 := by simp [HM.out]
      rw [hl1, prow_snoc]
      exact ⟨HW.out.2.2.2.2.2.1.1, Or.inr ⟨g', cap', cur', rfl, by have := HW.out.2.2.2.2.2.2.1; omega, (heap_setCell_ne HW.out.2.2.1).trans HW.out.2.1, HW.out.2.2.2.2.2.2.2.2⟩⟩
  case done =>
    rintro D ys W hD hS ⟨⟨v, hv, hrow⟩, ⟨hk, hB⟩, hlm⟩ hK
    subst hS
    obtain ⟨c1, f1⟩ := heap_box hv
    have hDw : w.heap.size ≤ D := Nat.le_trans H3.out.2.2.size hD
    have HI := Lib.hid (And.intro hrow (And.intro hB (And.intro hv (And.intro hlm hDw))))
    clear hrow hB hv hlm hk f1 hDw
    gi_wp2
    refine ⟨by simp, .inl ⟨_, _, rfl, run_takeDeferred hK, ?_⟩⟩
    refine ⟨.tuple #[v, .int .i64 0], by simp [results, Tryz.f12, go_sem], v, rfl, ?_, HI.out.2.1.trans (below_put W D _ _ HI.out.2.2.2.2 hK rfl rfl)⟩
    rw [List.take_of_length_le HI.out.2.2.2.1]
    exact ownsRow_base (ownsRow_own HI.out.1 (grownBy_putObj' W D _) (fun r e => by cases e; exact ⟨_, hK, rfl⟩)) H3.out.2.2.size
  case stop =>
    rintro D cd pre0 W hD hpre ⟨rfl, pre, x, rfl, hlm, ⟨v, hv, hrow⟩, hk, hB⟩ hK
    obtain ⟨c1, f1⟩ := heap_box hv
    have hDw : w.heap.size ≤ D := Nat.le_trans H3.out.2.2.size hD
    have hpq : q.take most = pre := by
      obtain ⟨r, hr⟩ := hpre
      rw [← hr, ← hlm]
      simp
    have HI := Lib.hid (And.intro hrow (And.intro hB (And.intro hv (And.intro hpq hDw))))
    clear hrow hB hv hlm hk f1 hDw hpq
    gi_wp2
    refine ⟨by simp, .inl ⟨_, _, rfl, run_takeDeferred hK, ?_⟩⟩
    refine ⟨.tuple #[v, .int .i64 0], by simp [results, Tryz.f12, go_sem], v, rfl, ?_, HI.out.2.1.trans (below_put W D _ _ HI.out.2.2.2.2 hK rfl rfl)⟩
    rw [HI.out.2.2.2.1]
    exact ownsRow_base (ownsRow_own HI.out.1 (grownBy_putObj' W D _) (fun r e => by cases e; exact ⟨_, hK, rfl⟩)) H3.out.2.2.size
end Go.Proofs.YtmlmeeiojgkomaaGreatDoor
