/- The store: none, at, Len, place, Get, Put: the walks. A region that draws its order, inside a fence and inside a round (the body of a range over a function), whose calls may make memory: one walk in the text's order, at a class of worlds that keep an invariant. (The library's theorem asks that it stand in no round: its proof, turned: a round changes defer statements alone.) Text Qt, turned for a fence and a round. The heap: which slot an address is the head of: the plain part. -/
import Derived.Test.YtoaabbnieakidaaGreatDoorRGaj
import Derived.OwnWalk
import Derived.Sort.BigQuietIn
import Derived.Test.YtoaabbnieakidaaGreatDoorRGae
import Derived.StillTail
import Derived.BigQuiet
import Derived.Test.YtoaabbnieakidaaGreatDoorRGai
import Derived.Lib.ItoaWalk
namespace Go.Proofs.YtoaabbnieakidaaGreatDoorR
open Go.RowKit Go.BigFrame Go.Maps Go.WideMaps Lf

set_option maxRecDepth 100000 in
set_option maxHeartbeats 400000 in
theorem st_none {w : World} {ps : Nat} {S : St} {Y : Nat → Prop} (h : StOn w ps S Y) :
    Calls Tryz.prog 133 #[PV ps] w fun e w' => e = .returned (.bool false) ∧ w = w' := by
  obtain ⟨pa, pm, ph, pt, v, h⟩ := h
  obtain ⟨_, _, c2, _, _⟩ := h.cells
  clear h
  go_enter Tryz.func133, Tryz.ntmps133
  go_wp2
  go_ret
  exact ⟨rfl, rfl⟩

set_option maxRecDepth 100000 in
set_option maxHeartbeats 800000 in
theorem st_at {w : World} {ps : Nat} {S : St} {Y : Nat → Prop} (h : StOn w ps S Y) (hi : Inv S) (hh : Nat) (hl : hh < 18446744073709551616) :
    Calls Tryz.prog 130 #[PV ps, .int .u64 hh] w fun e w' => e = .returned (.tuple #[.int .i64 ((S.at hh).1 : Nat), .int .i64 ((S.at hh).2.1 : Nat), .int .i64 ((S.at hh).2.2 : Nat)]) ∧ w = w' := by
  have hno := st_none h
  have h3 := hi.at_le hh
  have h4 := hi.addr_le hh
  obtain ⟨pa, pm, ph, pt, v, h⟩ := h
  obtain ⟨_, _, c2, _, c4⟩ := h.cells
  have hta := tab_at h.tab hh hl
  rcases S.at_cases hh with ⟨a, n, h1, h2, hn⟩ | ⟨h1, h2⟩
  · rw [h1] at h3 h4 ⊢
    rw [h2] at hta
    simp only at h3 h4 hta ⊢
    have hrd := h.heap.read (a + 1) (by omega)
    rw [hn] at hrd
    have HG := Lib.hid (And.intro hno (And.intro hta hrd))
    clear hno hta h h1 h2 hn hrd
    go_enter Tryz.func130, Tryz.ntmps130
    go_wp2_with fail
    refine HG.out.1.mono ?_
    rintro e w1 ⟨rfl, rfl⟩
    go_wp2_with fail
    refine HG.out.2.1.mono ?_
    rintro e w1 ⟨rfl, rfl⟩
    go_wp2_with fail
    refine HG.out.2.2.mono ?_
    rintro e w1 ⟨rfl, rfl⟩
    go_wp2_with fail
    go_ret3
    exact ⟨rfl, rfl⟩
  · rw [h1]
    rw [h2] at hta
    simp only at hta ⊢
    have HG := Lib.hid (And.intro hno hta)
    clear hno hta h h1 h2
    go_enter Tryz.func130, Tryz.ntmps130
    go_wp2_with fail
    refine HG.out.1.mono ?_
    rintro e w1 ⟨rfl, rfl⟩
    go_wp2_with fail
    refine HG.out.2.mono ?_
    rintro e w1 ⟨rfl, rfl⟩
    go_wp2_with fail
    go_ret3
    exact ⟨rfl, rfl⟩

set_option maxRecDepth 100000 in
set_option maxHeartbeats 400000 in
theorem st_len {w : World} {ps : Nat} {S : St} {Y : Nat → Prop} (h : StOn w ps S Y) (hi : Inv S) (hh : Nat) (hl : hh < 18446744073709551616) :
    Calls Tryz.prog 100 #[PV ps, .int .u64 hh] w fun e w' => e = .returned (.tuple #[.int .i64 ((S.len hh).1 : Nat), .int .i64 ((S.len hh).2 : Nat)]) ∧ w = w' := by
  have hat := st_at h hi hh hl
  unfold St.len
  generalize S.at hh = r at *
  have HG := Lib.hid hat
  clear hat h hi
  go_enter Tryz.func100, Tryz.ntmps100
  go_wp2_with fail
  refine HG.out.mono ?_
  rintro e w1 ⟨rfl, rfl⟩
  go_wp2_with fail
  go_ret2
  exact ⟨rfl, rfl⟩

set_option maxRecDepth 100000 in
set_option maxHeartbeats 800000 in
theorem st_place {w : World} {ps : Nat} {S : St} {Y : Nat → Prop} (h : StOn w ps S Y) (hi : Inv S) (hh k : Nat) (hl : hh < 18446744073709551616) (hk : k ≤ 4611686018427387904) :
    Calls Tryz.prog 195 #[PV ps, .int .u64 hh, .int .i64 k] w fun e w' => e = .returned (.tuple #[.int .i64 ((S.place hh k).1 : Nat), .int .i64 ((S.place hh k).2 : Nat)]) ∧ w = w' := by
  have hat := st_at h hi hh hl
  have h3 := hi.at_le hh
  have h4 := hi.addr_le hh
  obtain ⟨R, hR⟩ : ∃ R, S.place hh k = R := ⟨_, rfl⟩
  rw [hR]
  unfold St.place at hR
  rcases S.at_cases hh with ⟨a, n, h1, _⟩ | ⟨h1, _⟩
  · rw [h1] at h3 h4 hat hR
    simp only at h3 h4 hat hR
    by_cases hkn : k < n
    · rw [if_pos hkn] at hR
      have hkn' : (k : Int) < n := by omega
      have HG := Lib.hid (And.intro hat hR)
      clear hat hR h hi h1 hkn
      go_enter Tryz.func195, Tryz.ntmps195
      go_wp2_with fail
      refine HG.out.1.mono ?_
      rintro e w1 ⟨rfl, rfl⟩
      go_wp2_with fail
      go_ret2
      obtain rfl := HG.out.2
      exact ⟨rfl, rfl⟩
    · rw [if_neg hkn] at hR
      have hkn' : (n : Int) ≤ k := by omega
      have HG := Lib.hid (And.intro hat hR)
      clear hat hR h hi h1 hkn
      go_enter Tryz.func195, Tryz.ntmps195
      go_wp2_with fail
      refine HG.out.1.mono ?_
      rintro e w1 ⟨rfl, rfl⟩
      go_wp2_with fail
      go_ret2
      obtain rfl := HG.out.2
      exact ⟨rfl, rfl⟩
  · rw [h1] at hat hR
    simp only at hat hR
    have HG := Lib.hid (And.intro hat hR)
    clear hat hR h hi h1
    go_enter Tryz.func195, Tryz.ntmps195
    go_wp2_with fail
    refine HG.out.1.mono ?_
    rintro e w1 ⟨rfl, rfl⟩
    go_wp2_with fail
    go_ret2
    obtain rfl := HG.out.2
    exact ⟨rfl, rfl⟩

set_option maxRecDepth 100000 in
set_option maxHeartbeats 800000 in
theorem st_get {w : World} {ps : Nat} {S : St} {Y : Nat → Prop} (h : StOn w ps S Y) (hi : Inv S) (hh k : Nat) (hl : hh < 18446744073709551616) (hk : k ≤ 4611686018427387904) :
    Calls Tryz.prog 141 #[PV ps, .int .u64 hh, .int .i64 k] w fun e w' => e = .returned (.tuple #[.int .u64 ((S.get hh k).1 : Nat), .int .i64 ((S.get hh k).2 : Nat)]) ∧ w = w' := by
  have hpl := st_place h hi hh k hl hk
  have h3 := hi.place_le hh k
  obtain ⟨pa, pm, ph, pt, v, h⟩ := h
  obtain ⟨_, _, c2, _, _⟩ := h.cells
  obtain ⟨R, hR⟩ : ∃ R, S.get hh k = R := ⟨_, rfl⟩
  rw [hR]
  rw [St.get_place] at hR
  rcases S.place_cases hh k with ⟨p, h1⟩ | ⟨er, h1⟩
  · rw [h1] at hpl h3 hR
    simp only at hpl h3 hR
    have hrd := h.heap.read p (by omega)
    have HG := Lib.hid (And.intro hpl (And.intro hR hrd))
    clear hpl hR h hi h1 hrd
    go_enter Tryz.func141, Tryz.ntmps141
    go_wp2_with fail
    refine HG.out.1.mono ?_
    rintro e w1 ⟨rfl, rfl⟩
    go_wp2_with fail
    refine HG.out.2.2.mono ?_
    rintro e w1 ⟨rfl, rfl⟩
    go_wp2_with fail
    go_ret2
    obtain rfl := HG.out.2.1
    exact ⟨rfl, rfl⟩
  · rw [h1] at hpl hR
    simp only at hpl hR
    have hq1 : (((er + 1 : Nat) : Int) != 0) = true := by simp; omega
    obtain ⟨g1, hg1⟩ : ∃ g1, er + 1 = g1 := ⟨_, rfl⟩
    rw [hg1] at hpl hR hq1
    have HG := Lib.hid (And.intro hpl hR)
    clear hpl hR h hi h1 hg1
    go_enter Tryz.func141, Tryz.ntmps141
    go_wp2_with fail
    refine HG.out.1.mono ?_
    rintro e w1 ⟨rfl, rfl⟩
    go_wp2_with fail
    go_ret2
    obtain rfl := HG.out.2
    exact ⟨rfl, rfl⟩

set_option maxRecDepth 100000 in
set_option maxHeartbeats 800000 in
theorem st_put {w : World} {ps : Nat} {S : St} {Y : Nat → Prop} (h : StOn w ps S Y) (hi : Inv S) (hh k x : Nat) (hl : hh < 18446744073709551616) (hk : k ≤ 4611686018427387904) (hx : x < 18446744073709551616) :
    Calls Tryz.prog 139 #[PV ps, .int .u64 hh, .int .i64 k, .int .u64 x] w fun e w' => e = .returned (.int .i64 ((S.put hh k x).1 : Nat)) ∧ StOn w' ps (S.put hh k x).2 Y ∧ Keep Y w w' := by
  have hpl := st_place h hi hh k hl hk
  have h3 := hi.place_le hh k
  have hY := h.yl
  obtain ⟨R, hR⟩ : ∃ R, S.put hh k x = R := ⟨_, rfl⟩
  rw [hR]
  rw [St.put_place] at hR
  rcases S.place_cases hh k with ⟨p, h1⟩ | ⟨er, h1⟩
  · rw [h1] at hpl h3 hR
    simp only at hpl h3 hR
    obtain ⟨pa, pm, ph, pt, v, h⟩ := h
    obtain ⟨_, _, c2, _, _⟩ := h.cells
    have hwr := h.heap.write p x (by omega) hx
    have HG := Lib.hid (And.intro hpl (And.intro hR (And.intro hwr h)))
    clear hpl hR h hi h1 hwr hY
    go_enter Tryz.func139, Tryz.ntmps139
    go_wp2_with fail
    refine HG.out.1.mono ?_
    rintro e w1 ⟨rfl, rfl⟩
    go_wp2_with fail
    refine HG.out.2.2.1.mono ?_
    rintro e w1 ⟨rfl, ha, hkp⟩
    have HA := Lib.hid (And.intro (HG.out.2.2.2.arena ha hkp) (hkp.mono fun _ => YS.self))
    clear ha hkp
    go_wp2_with fail
    go_ret
    obtain rfl := HG.out.2.1
    exact ⟨rfl, ⟨_, _, _, _, _, HA.out.1⟩, HA.out.2⟩
  · rw [h1] at hpl hR
    simp only at hpl hR
    have hq1 : (((er + 1 : Nat) : Int) != 0) = true := by simp; omega
    obtain ⟨g1, hg1⟩ : ∃ g1, er + 1 = g1 := ⟨_, rfl⟩
    rw [hg1] at hpl hR hq1
    have HG := Lib.hid (And.intro hpl (And.intro hR h))
    clear hpl hR h hi h1 hg1 hY
    go_enter Tryz.func139, Tryz.ntmps139
    go_wp2_with fail
    refine HG.out.1.mono ?_
    rintro e w1 ⟨rfl, rfl⟩
    go_wp2_with fail
    go_ret
    obtain rfl := HG.out.2.1
    exact ⟨rfl, HG.out.2.2, Keep.refl _ _⟩
end Go.Proofs.YtoaabbnieakidaaGreatDoorR

namespace Go.Proofs.YtoaabbnieakidaaGreatDoorR
open Go.RowKit
section
variable {F : Fence} {n : Nat} {P : Program} {ops : Array Oper} {md : Region.Mode} {C : World → Prop}

def noDefer (ops : Array Oper) : Bool := ops.all fun o => match o.op with | .defer _ => false | _ => true
theorem noDefer_at (h : noDefer ops = true) {i : Nat} {o : Oper} (ho : ops[i]? = some o) : ∀ c, o.op ≠ .defer c := fun c hc => by
  obtain ⟨hi, rfl⟩ := Array.getElem?_eq_some_iff.1 ho
  have := Array.all_eq_true.1 h i hi
  rw [hc] at this
  cases this
theorem wpIn_of_quietR {o : Oper} {a : Act} {K : Act → Prop} {K' : Act → World → Prop} {Q' : Exit → Act → World → Prop} {w : World} (hnd : ∀ c, o.op ≠ .defer c) (hw : C w) (h : ∀ a w', C w' → K a → K' a w')
    (ha : o.askedIn F P a C) (hh : o.quietIn F n P a C K) : o.wpIn F n P a w K' Q' := by
  obtain ⟨v, h1, h2⟩ := hh
  have h3 := h1 w hw
  unfold Oper.quietAtIn at h3
  unfold Oper.wpIn
  refine ⟨ha w hw, ?_⟩
  rw [Oper.semAt_eq _ _ _ hnd]
  generalize (execOp a.eval o).run P w = r at *
  cases r with
  | ok x w' =>
    cases x <;> simp only [Oper.quietUponIn] at h3 <;> simp only [Oper.uponIn]
    case value u =>
      obtain ⟨e1, e2⟩ := h3
      rw [e1, e2]
      exact h _ _ hw h2
    case skip =>
      obtain ⟨e1, e2⟩ := h3
      rw [e1, ← e2]
      exact h _ _ hw h2
    case enter f args =>
      obtain ⟨e1, hd, hc⟩ := h3
      rw [e1]
      exact ⟨hd, hc.mono fun e w'' ⟨he, hw''⟩ => by subst he; exact h _ _ hw'' h2⟩
  | halt x w' => simp only [Oper.quietUponIn] at h3
theorem wpOpIn_of_qOpInR {i : Nat} {a : Act} {K : Act → Prop} {K' : Act → World → Prop} {Q' : Exit → Act → World → Prop} {w : World} (hnd : noDefer ops = true) (hC : C w) (h : ∀ a w', C w' → K a → K' a w')
    (hh : qOpIn F n P ops C i K a) : wpOpIn F n P ops Q' i K' a w := by
  unfold qOpIn at hh
  unfold wpOpIn
  split
  · rename_i ho; simp only [ho] at hh; exact h _ _ hC hh
  · rename_i o ho
    simp only [ho] at hh
    obtain ⟨ha, hh⟩ := hh
    split
    · rename_i hw; simp only [hw, if_true] at hh; exact wpIn_of_quietR (noDefer_at hnd ho) hC h ha hh
    · rename_i hw; simp only [hw] at hh; exact ⟨ha w hC, h _ _ hC hh⟩
theorem wpAnyIn_of_quietR {Q : Act → Prop} {Q' : Exit → Act → World → Prop} (hnd : noDefer ops = true) (hQ : ∀ a w, C w → Q a → Q' .normal a w) : ∀ (fuel : Nat) (listed : Array Bool) (a : Act) (w : World), C w →
    wpAnyQIn F n P md ops C Q fuel listed a → wpAnyIn F n P md ops Q' fuel listed a w
  | 0, _, _, _, hw, h => ⟨h.1, hQ _ _ hw h.2⟩
  | fuel + 1, _, _, _, hw, h => ⟨fun h0 => hQ _ _ hw (h.1 h0), fun i hi => wpOpIn_of_qOpInR hnd hw (fun a' w' hw' => wpAnyIn_of_quietR hnd hQ fuel _ a' w' hw') (h.2 i hi)⟩
theorem wpIn_region_quietR {id : Nat} {Q : Exit → Act → World → Prop} {a : Act} {w : World} (hnd : noDefer ops = true) (hm : P.follows .mixedOrders = true) (hB : Region.lexB .any ops = true) (hC : C { w with drawn := w.drawn + 1 })
    (h : wpQuietIn F n P ops C (fun a' => ∀ w', C w' → Q .normal a' w') ops.toList a) : (Code.region id ops true).wpIn F n P Q a w := by
  simp only [Region.lexB, Bool.and_eq_true] at hB
  refine wpIn_region_any hm (wpAnyIn_of_quietR (Q := fun a' => ∀ w', C w' → Q .normal a' w') hnd (fun _ w' hw' h => h w' hw') _ _ _ _ hC ?_)
  have := wpAnyQIn_lex (F := F) (n := n) (C := C) (md := .any) hB.1 ops.toList 0 (Array.replicate ops.size false) a (by simp) (by simpa using hB.2) h
  simpa using this
theorem wpIn_region_keeps {id : Nat} {Q : Exit → Act → World → Prop} {a : Act} {w : World} {l : List Oper} (I : World → Prop) (hnd : noDefer l.toArray = true) (hm : P.follows .mixedOrders = true) (hB : Region.lexB .any l.toArray = true)
    (hI : I w.drew)
    (h : Nonempty (Keeps I) → wpQuietIn F n P l.toArray (fun w' => ∃ x : Keeps I, w' = x.to) (fun a' => ∀ w', (∃ x : Keeps I, w' = x.to) → Q .normal a' w') l a) : (Code.region id l.toArray true).wpIn F n P Q a w :=
  wpIn_region_quietR (C := fun w' => ∃ x : Keeps I, w' = x.to) hnd hm hB ⟨⟨_, hI⟩, rfl⟩ (by simpa using h ⟨⟨_, hI⟩⟩)
theorem CallsIn.keeps_below {f : FuncId} {args : Array Value} {w : World} {v : Value} {x : Keeps (Below w.heap.size w)}
    (h : CallsIn F n P f args x.to fun e w' => e = .returned v ∧ Below x.to.heap.size x.to w') : CallsIn F n P f args x.to fun e w'' => e = .returned v ∧ ∃ y : Keeps (Below w.heap.size w), w'' = y.to :=
  h.mono fun _ _ ⟨he, hb⟩ => ⟨he, ⟨_, x.ok.trans (hb.mono x.ok.size)⟩, rfl⟩
theorem CallsIn.keeps_same {f : FuncId} {args : Array Value} {I : World → Prop} {v : Value} {x : Keeps I}
    (h : CallsIn F n P f args x.to fun e w' => e = .returned v ∧ x.to = w') : CallsIn F n P f args x.to fun e w'' => e = .returned v ∧ ∃ y : Keeps I, w'' = y.to :=
  h.mono fun _ _ ⟨he, hb⟩ => ⟨he, x, hb.symm⟩
end
end Go.Proofs.YtoaabbnieakidaaGreatDoorR

namespace Go.Proofs.YtoaabbnieakidaaGreatDoorR.Qj
open Go Go.RowKit
section
variable {F : Fence} {r : Nat} {P : Program} {ops : Array Oper} {md : Region.Mode} {C : World → Prop}

def wpAnyQLI (F : Fence) (r : Nat) (P : Program) (md : Region.Mode) (ops : Array Oper) (C : World → Prop) (n : Nat) (L : Array Bool → Act → Prop) : Nat → Array Bool → Act → Prop
  | 0, listed, a => L listed a
  | f + 1, listed, a =>
    Region.ready md ops listed ≠ [] ∧ ∀ i ∈ Region.ready md ops listed, i < n ∧ qOpIn F r P ops C i (wpAnyQLI F r P md ops C n L f (listed.setIfInBounds i true)) a

theorem wpAnyIn_of_seq {Q' : Exit → Act → World → Prop} : ∀ (l : List Oper) (k : Nat) (listed : Array Bool) (a : Act) (w : World), (∀ j, l[j]? = ops[k + j]?) →
    Region.seqB md ops l.length k listed = true → wpListIn F r P ops Q' l a w → wpAnyIn F r P md ops Q' l.length listed a w
  | [], _, _, _, _, _, hB, h => ⟨by simpa [Region.seqB] using hB, h⟩
  | o :: l, k, listed, a, w, hl, hB, h => by
    have h0 : ops[k]? = some o := by simpa using (hl 0).symm
    simp only [List.length_cons, Region.seqB, Bool.and_eq_true, decide_eq_true_eq] at hB
    refine ⟨fun h1 => (by rw [hB.1] at h1; cases h1), fun i hi => ?_⟩
    rw [hB.1] at hi
    have hik : i = k := by simpa using hi
    subst hik
    have hw : wpOpIn F r P ops Q' i (wpListIn F r P ops Q' l) a w := by unfold wpOpIn; simp only [h0]; exact h
    exact wpOpIn_mono (fun a' w' h' => wpAnyIn_of_seq l (i + 1) _ a' w' (fun j => by have := hl (j + 1); simpa [Nat.add_assoc, Nat.add_comm 1 j] using this) hB.2 h') hw

theorem wpAnyI_of_head {n g : Nat} {L : Array Bool → Act → Prop} {Q' : Exit → Act → World → Prop} (hnd : noDefer ops = true) (hL : ∀ listed a w, C w → L listed a → wpAnyIn F r P md ops Q' g listed a w) :
    ∀ (f : Nat) (listed : Array Bool) (a : Act) (w : World), C w → wpAnyQLI F r P md ops C n L f listed a → wpAnyIn F r P md ops Q' (f + g) listed a w
  | 0, listed, a, w, hC, h => by rw [Nat.zero_add]; exact hL _ _ _ hC h
  | f + 1, listed, a, w, hC, h => by
    rw [show f + 1 + g = (f + g) + 1 by omega]
    exact ⟨fun h0 => absurd h0 h.1, fun i hi => wpOpIn_of_qOpInR hnd hC (fun a' w' hC' h' => wpAnyI_of_head hnd hL f _ a' w' hC' h') (h.2 i hi).2⟩

theorem wpAnyQLI_first {n i : Nat} {oi : Oper} {v : Value} {L : Array Bool → Act → Prop} (hi : ops[i]? = some oi) (hsel : ∀ (j : Nat) (o : Oper) cs b, ops[j]? = some o → o.op ≠ .select cs b)
    (hs : Region.sinkB md ops n = true) (hc : Region.chainB md ops n = true) (hn : n < ops.size) (hin : i < n)
    (hdone : ∀ listed a, L listed a → ∀ j ∈ Region.ready md ops listed, n ≤ j) :
    ∀ (f : Nat) (listed : Array Bool) (a : Act), HeadInv md ops n listed →
      (∀ j oj, ops[j]? = some oj → j ≠ i → listed.getD j true = false → (∀ e ∈ oj.after, Region.binds md e = true → e.on ≠ i) → oi.apart ops oj = true) →
      i ∈ Region.ready md ops listed → YieldsQuiet F r P ops C oi v a →
      wpAnyQLI F r P md ops C n L f (listed.setIfInBounds i true) (a.put oi.dst v) → wpAnyQLI F r P md ops C n L (f + 1) listed a := by
  intro f
  induction f with
  | zero =>
    intro listed a inv _ hr hy H
    have hun := (mem_ready.1 hr).1
    refine ⟨fun h => (by rw [h] at hr; cases hr), fun j hj => ?_⟩
    have hjn : j < n := by
      rcases Nat.lt_or_ge j n with h | h
      · exact h
      · exact absurd hj (tail_waits hs hc hn inv _ i rfl hin hun j h)
    refine ⟨hjn, ?_⟩
    by_cases hji : j = i
    · subst hji; exact hy.qOpIn hi H
    · have := hdone _ _ H j (ready_mono hj hji)
      omega
  | succ f ih =>
    intro listed a inv hfree hr hy H
    have hun := (mem_ready.1 hr).1
    refine ⟨fun h => (by rw [h] at hr; cases hr), fun j hj => ?_⟩
    have hjn : j < n := by
      rcases Nat.lt_or_ge j n with h | h
      · exact h
      · exact absurd hj (tail_waits hs hc hn inv _ i rfl hin hun j h)
    refine ⟨hjn, ?_⟩
    by_cases hji : j = i
    · subst hji; exact hy.qOpIn hi H
    · have h1 := (H.2 j (ready_mono hj hji)).2
      obtain ⟨hjun, oj, hoj, hall⟩ := mem_ready.1 hj
      have hnot : ∀ e ∈ oj.after, Region.binds md e = true → e.on ≠ i := fun e he hb heq => by
        have h1 := hall e he hb
        rw [heq, getD_both hun] at h1
        cases h1
      have h2 := qOpIn_put hoj (hfree j oj hoj hji hjun hnot) (fun cs b => hsel i oi cs b hi) (fun cs b => hsel j oj cs b hoj) hy h1
      have hfree' : ∀ k ok, ops[k]? = some ok → k ≠ i → (listed.setIfInBounds j true).getD k true = false →
          (∀ e ∈ ok.after, Region.binds md e = true → e.on ≠ i) → oi.apart ops ok = true := fun k ok hk hki hun hno => by
        refine hfree k ok hk hki ?_ hno
        by_cases hjk : j = k
        · subst hjk; exact hjun
        · rw [getD_set_ne true hjk] at hun; exact hun
      refine qOpIn_mono (fun a' h3 => ih (listed.setIfInBounds j true) a' (inv.set hj hjn) hfree' (ready_mono hr (Ne.symm hji)) h3.1 ?_) h2
      rw [Array.setIfInBounds_comm _ _ hji]
      exact h3.2

theorem wpAnyQLI_lex {n g : Nat} {Lq : Act → Prop} (hsel : Region.noSelect ops = true) (hs : Region.sinkB md ops n = true) (hc : Region.chainB md ops n = true) (hn : n < ops.size) :
    ∀ (l : List Oper) (k : Nat) (listed : Array Bool) (a : Act), (∀ j, j < l.length → l[j]? = ops[k + j]?) → k + l.length = n → HeadInv md ops n listed →
    Region.lexHead md ops g l.length k listed = true → wpQuietIn F r P ops C Lq l a →
    wpAnyQLI F r P md ops C n (fun listed' a' => Region.seqB md ops g n listed' = true ∧ Lq a') l.length listed a
  | [], k, listed, a, _, hk, _, hB, h => by
    have : k = n := by simpa using hk
    subst this
    exact ⟨by simpa [Region.lexHead] using hB, h⟩
  | o :: l, k, listed, a, hl, hk, inv, hB, h => by
    have h0 : ops[k]? = some o := by simpa using (hl 0 (by simp)).symm
    simp only [List.length_cons, Region.lexHead, Bool.and_eq_true] at hB
    obtain ⟨⟨hr, hf⟩, hB'⟩ := hB
    have hkn : k < n := by simp only [List.length_cons] at hk; omega
    have hr' : k ∈ Region.ready md ops listed := by simpa using hr
    have hst : qOpIn F r P ops C k (wpQuietIn F r P ops C Lq l) a := by unfold qOpIn; simp only [h0]; exact h
    obtain ⟨v, hy, hK⟩ := yieldsQuiet_of_qOpIn h0 hst
    exact wpAnyQLI_first h0 (Region.noSelect_spec hsel) hs hc hn hkn (fun listed' a' hL => seqB_ready hL.1) l.length listed a inv (Region.free_spec h0 hf) hr' hy
      (wpAnyQLI_lex hsel hs hc hn l (k + 1) _ _ (fun j hj => by have := hl (j + 1) (by simp; omega); simpa [Nat.add_assoc, Nat.add_comm 1 j] using this) (by simp only [List.length_cons] at hk; omega) (inv.set hr' hkn) hB' hK)

end
end Qj

theorem wpIn_region_quiet_tail {F : Fence} {r : Nat} {P : Program} {C : World → Prop} {id : Nat} {Q : Exit → Act → World → Prop} {a : Act} {w : World} {l : List Oper} (n : Nat) (hnd : noDefer l.toArray = true) (hm : P.follows .mixedOrders = true) (hB : Region.lexTailB .any l.toArray n = true) (hC : C w.drew)
    (h : wpQuietIn F r P l.toArray C (fun a' => ∀ w', C w' → wpListIn F r P l.toArray Q (l.drop n) a' w') (l.take n) a) : (Code.region id l.toArray true).wpIn F r P Q a w := by
  simp only [Region.lexTailB, Bool.and_eq_true, decide_eq_true_eq] at hB
  obtain ⟨⟨⟨⟨hsel, hn⟩, hs⟩, hc⟩, hlex⟩ := hB
  have hn' : n < l.length := by simpa using hn
  have htl : (l.take n).length = n := by simp; omega
  have hdl : (l.drop n).length = l.toArray.size - n := by simp
  have inv0 : HeadInv .any l.toArray n (Array.replicate l.toArray.size false) :=
    ⟨by simp, fun j oj _ hl => (by rw [getD_replicate_false] at hl; cases hl), fun t _ ht => getD_in (by simpa using ht) (getD_replicate_false _ _)⟩
  have H := Qj.wpAnyQLI_lex (F := F) (r := r) (md := .any) (g := l.toArray.size - n) hsel hs hc hn (l.take n) 0 _ a (fun j hj => by
    have hj' : j < n := by rw [htl] at hj; exact hj
    simp [hj']) (by simpa using htl) inv0 (by rw [htl]; exact hlex) h
  refine wpIn_region_any hm ?_
  have := Qj.wpAnyI_of_head (Q' := Q) (g := l.toArray.size - n) hnd (fun listed a' w' hC' hL => by
    have := Qj.wpAnyIn_of_seq (F := F) (r := r) (md := .any) (Q' := Q) (l.drop n) n listed a' w' (fun j => by simp [List.getElem?_drop]) (by rw [hdl]; exact hL.1) (hL.2 w' hC')
    rwa [hdl] at this) _ _ _ _ (show C { w with drawn := w.drawn + 1 } from hC) H
  rw [htl, show n + (l.toArray.size - n) = l.toArray.size by omega] at this
  exact this
end Go.Proofs.YtoaabbnieakidaaGreatDoorR

namespace Go.Proofs.YtoaabbnieakidaaGreatDoorR
open Go.RowKit Go.BigFrame Go.Maps Go.WideMaps Lf
open Go.Shelf

/-- a cell that holds v and may be stored to -/
def Cx (W : World) (B i : Nat) (v : Value) : Prop := W.cell? ⟨B, i, none⟩ = some v ∧ W.frozen? ⟨B, i, none⟩ = false
theorem Cx.kept {W W' : World} {row : Option Nat} {B i : Nat} {v : Value} (h : Cx W B i v) (hg : W.grownBy W' row) (hr : ∀ r, row = some r → ∃ o : Obj, W.heap[r]? = some o ∧ o.isCells = false) : Cx W' B i v :=
  ⟨cell_kept h.1 hg hr, (frozen_kept h.1 hg hr).trans h.2⟩
theorem Cx.alloc {W : World} {B i : Nat} {v : Value} (h : Cx W B i v) (o : Obj) : Cx (W.alloc o) B i v := h.kept (World.grownBy_alloc W o none) (fun r e => by cases e)
theorem Cx.drewN {W : World} {B i : Nat} {v : Value} (h : Cx W B i v) (n : Nat) : Cx (W.drewN n) B i v := h
theorem Cx.set {W : World} {B i : Nat} {v : Value} (h : Cx W B i v) (u : Value) : Cx (W.setCell ⟨B, i, none⟩ u) B i u :=
  ⟨World.cell?_setCell_same' _ _ _ (by rw [h.1]; rfl), by rw [World.frozen?_setCell]; exact h.2⟩
theorem Cx.other {W : World} {B C i j : Nat} {v : Value} (h : Cx W B i v) (u : Value) (hne : B ≠ C) : Cx (W.setCell ⟨C, j, none⟩ u) B i v := by
  refine ⟨?_, by rw [World.frozen?_setCell]; exact h.2⟩
  have e : (W.setCell ⟨C, j, none⟩ u).cell? ⟨B, i, none⟩ = W.cell? ⟨B, i, none⟩ := World.cell?_of_block (Below.heap_setCell W ⟨C, j, none⟩ u B hne)
  rw [e]
  exact h.1
theorem Cx.put {W : World} {B D i : Nat} {v : Value} {o o' : Obj} (h : Cx W B i v) (hD : W.heap[D]? = some o) (ho : o.isCells = false) : Cx (W.putObj D o') B i v :=
  h.kept (grownBy_putObj' W D o') (fun r e => by cases e; exact ⟨o, hD, ho⟩)
theorem Cx.below {W W' : World} {B n i : Nat} {v : Value} (h : Cx W B i v) (hb : Below n W W') (hB : B < n) : Cx W' B i v :=
  ⟨(hb.cell (p := ⟨B, i, none⟩) hB).trans h.1, (hb.frozen (p := ⟨B, i, none⟩) hB).trans h.2⟩
theorem Cx.lt {W : World} {B i : Nat} {v : Value} (h : Cx W B i v) : B < W.heap.size := by
  have := h.1
  unfold World.cell? at this
  split at this
  · rename_i heq; exact (Array.getElem?_eq_some_iff.1 heq).1
  · cases this

/-- a head in a box of its own -/
def Hx (W : World) (B : Nat) (x : Head) : Prop := W.heap[B]? = some (.cells #[.int .i64 x.kind, .int .i64 x.n, .int .u64 x.w] 262 (0, 0))
theorem Hx.new (W : World) (x : Head) : Hx (W.alloc (.cells #[.int .i64 x.kind, .int .i64 x.n, .int .u64 x.w] 262)) W.heap.size x := by
  show (W.heap.push _)[W.heap.size]? = _
  simp
theorem Hx.lt {W : World} {B : Nat} {x : Head} (h : Hx W B x) : B < W.heap.size := (Array.getElem?_eq_some_iff.1 h).1
theorem Hx.kept {W W' : World} {row : Option Nat} {B : Nat} {x : Head} (h : Hx W B x) (hg : W.grownBy W' row) (hr : ∀ r, row = some r → ∃ o : Obj, W.heap[r]? = some o ∧ o.isCells = false) : Hx W' B x :=
  (hg.block B h.lt (fun e => by
    obtain ⟨o, ho, hc⟩ := hr B e.symm
    rw [show W.heap[B]? = _ from h] at ho
    injection ho with ho
    rw [← ho] at hc
    cases hc)).trans h
theorem Hx.alloc {W : World} {B : Nat} {x : Head} (h : Hx W B x) (o : Obj) : Hx (W.alloc o) B x := h.kept (World.grownBy_alloc W o none) (fun r e => by cases e)
theorem Hx.other {W : World} {B C j : Nat} {x : Head} (h : Hx W B x) (u : Value) (hne : B ≠ C) : Hx (W.setCell ⟨C, j, none⟩ u) B x := (Below.heap_setCell W ⟨C, j, none⟩ u B hne).trans h
theorem Hx.put {W : World} {B D : Nat} {x : Head} {o o' : Obj} (h : Hx W B x) (hD : W.heap[D]? = some o) (ho : o.isCells = false) : Hx (W.putObj D o') B x :=
  h.kept (grownBy_putObj' W D o') (fun r e => by cases e; exact ⟨o, hD, ho⟩)
theorem Hx.below {W W' : World} {B n : Nat} {x : Head} (h : Hx W B x) (hb : Below n W W') (hB : B < n) : Hx W' B x := (hb.block B hB).trans h
theorem Hx.set {W : World} {B : Nat} {x : Head} (h : Hx W B x) (y : Head) : Hx (((W.setCell ⟨B, 0, none⟩ (.int .i64 y.kind)).setCell ⟨B, 1, none⟩ (.int .i64 y.n)).setCell ⟨B, 2, none⟩ (.int .u64 y.w)) B y := by
  have := heap_setCell (v := .int .u64 y.w) (i := 2) (heap_setCell (v := .int .i64 y.n) (i := 1) (heap_setCell (v := .int .i64 y.kind) (i := 0) h))
  exact this
theorem Hx.c0 {W : World} {B : Nat} {x : Head} (h : Hx W B x) : Cx W B 0 (.int .i64 x.kind) := ⟨by rw [cell_of_block h]; rfl, frozen_of_block h⟩
theorem Hx.c1 {W : World} {B : Nat} {x : Head} (h : Hx W B x) : Cx W B 1 (.int .i64 x.n) := ⟨by rw [cell_of_block h]; rfl, frozen_of_block h⟩
theorem Hx.c2 {W : World} {B : Nat} {x : Head} (h : Hx W B x) : Cx W B 2 (.int .u64 x.w) := ⟨by rw [cell_of_block h]; rfl, frozen_of_block h⟩

theorem findIn_cons (addr p : Nat) (x : Head) (r : List (Nat × Head)) : findIn addr ((p, x) :: r) =
    if x.kind = 2 ∧ addr = p * 64 + 2 then some (p, 0, x)
    else if x.kind ≠ 1 ∨ addr / 64 ≠ p then findIn addr r
    else match slotAt addr p x with
      | some k => some (p, k, x)
      | none => findIn addr r := rfl
theorem findIn_snoc (addr : Nat) (x : Nat × Head) : ∀ q : List (Nat × Head), findIn addr q = none → findIn addr (q ++ [x]) = findIn addr [x]
  | [], _ => rfl
  | (p, y) :: q, h => by
    rw [findIn_cons] at h
    rw [List.cons_append, findIn_cons]
    split at h
    · cases h
    · rename_i h1
      rw [if_neg h1]
      split at h
      · rename_i h2
        rw [if_pos h2]
        exact findIn_snoc addr x q h
      · rename_i h2
        rw [if_neg h2]
        split at h
        · cases h
        · exact findIn_snoc addr x q h
theorem findIn_some (addr : Nat) (r : Nat × Nat × Head) : ∀ q t : List (Nat × Head), findIn addr q = some r → findIn addr (q ++ t) = some r
  | (p, y) :: q, t, h => by
    rw [findIn_cons] at h
    rw [List.cons_append, findIn_cons]
    split at h
    · rename_i h1
      rw [if_pos h1]; exact h
    · rename_i h1
      rw [if_neg h1]
      split at h
      · rename_i h2
        rw [if_pos h2]
        exact findIn_some addr r q t h
      · rename_i h2
        rw [if_neg h2]
        split at h
        · exact h
        · exact findIn_some addr r q t h
/-- what find says, as values -/
def findV (r : Option (Nat × Nat × Head)) : Value := match r with | some (p, k, x) => .tuple #[.int .i64 p, .int .i64 k, headV x, .bool true] | none => .tuple #[.int .i64 0, .int .i64 0, headV ⟨0, 0, 0⟩, .bool false]
theorem find_range_none {q : Nat → Bool} {m : Nat} (h : ∀ j, j < m → q j = false) : (List.range m).find? q = none :=
  List.find?_eq_none.2 fun j hj => by rw [h j (List.mem_range.1 hj)]; simp
theorem find_range_some {q : Nat → Bool} {m k : Nat} (hk : k < m) (hq : q k = true) (h : ∀ j, j < k → q j = false) : (List.range m).find? q = some k := by
  rw [List.find?_eq_some_iff_append]
  refine ⟨hq, List.range k, (List.range (m - k - 1)).map (· + (k + 1)), ?_, fun j hj => by rw [h j (List.mem_range.1 hj)]; rfl⟩
  rw [show m = k + ((m - k - 1) + 1) by omega, List.range_add, List.range_succ_eq_map]
  simp
  intro a _
  omega
end Go.Proofs.YtoaabbnieakidaaGreatDoorR
