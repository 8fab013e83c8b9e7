/- Blobs: the words of a record as a row: AppendSeq, Collect: the walks. Blobs: Collect; the text of a row of words; Get: the walks. Blobs: Get; texts: Compare: the walks. -/
import Derived.Test.YtepdkbmnkjfcpaaGreatDoorGas
import Derived.Maps.OwnIn
import Derived.Test.YtepdkbmnkjfcpaaGreatDoorGao
import Derived.Laws.BytesString
import Derived.Test.YtepdkbmnkjfcpaaGreatDoorGad
namespace Go.Proofs.YtepdkbmnkjfcpaaGreatDoor
open Go.RowKit Go.BigFrame Go.Maps Go.WideMaps Lf
open Go.Shelf
attribute [local go_sem] Oper.semAt_some

theorem keepsFrom_of_row {W W' : World} {base B : Nat} {e : TypeId} {size : Nat} {v : Value} {k : Nat} {xs : List Value} (h : W.ownsRow base e size v k xs) (hg : W.grownBy W' v.ownBlock) : KeepsFrom B W W' :=
  ⟨hg.size, fun j o _ hj ho => (hg.block j (Array.getElem?_eq_some_iff.1 hj).1 (fun e' => by
    rcases h.2 with ⟨rfl, _⟩ | ⟨g, cap, cur, rfl, _, hgb, _⟩
    · cases e'
    · have : j = g := by simpa [Value.ownBlock] using e'
      subst this
      rw [hgb] at hj
      injection hj with hj
      subst hj
      cases ho)).trans hj⟩
theorem below_put {n : Nat} (W : World) (l : Nat) (o o' : Obj) (hl : n ≤ l) (_ : W.heap[l]? = some o) (_ : o.isCells = false) (_ : o.isWalk = false) : Below n W (W.putObj l o') :=
  ⟨rfl, rfl, rfl, by simp, fun k hk => World.putObj_heap_other (by omega)⟩
theorem ownsRow_own {W W' : World} {row : Option Nat} {base : Nat} {e : TypeId} {size : Nat} {v : Value} {k : Nat} {xs : List Value} (h : W.ownsRow base e size v k xs) (hg : W.grownBy W' row) (hr : ∀ r, row = some r → ∃ o : Obj, W.heap[r]? = some o ∧ o.isCells = false) : W'.ownsRow base e size v k xs := by
  refine h.kept hg ?_
  rcases h.2 with ⟨rfl, _⟩ | ⟨g, cap, cur, rfl, _, hgb, _⟩
  · exact Or.inl rfl
  · refine Or.inr fun e' => ?_
    obtain ⟨o, ho, hc⟩ := hr g (by rw [← e']; rfl)
    rw [hgb] at ho
    injection ho with ho
    subst ho
    cases hc
theorem heap_box {W : World} {B : Nat} {v : Value} {t : TypeId} (h : W.heap[B]? = some (.cells #[v] t (0, 0))) : W.cell? ⟨B, 0, none⟩ = some v ∧ W.frozen? ⟨B, 0, none⟩ = false := ⟨by rw [cell_of_block h]; rfl, frozen_of_block h⟩

def uV (q : List Nat) : List Value := q.map fun x : Nat => Value.int .u64 x

set_option maxRecDepth 100000 in
set_option maxHeartbeats 1600000 in
theorem append_seq {w : World} {g : Nat} {lb : Array Value} {q : List Nat} {N : Nat} (hN : N ≤ 100000) (eg : ∀ args w, (callFunc g args).run Tryz.prog w = .ok (.enter g args) w)
    (hseq : SeqStopsK Fence.wide 6 Tryz.prog g lb encU (Below w.heap.size) (fun xs => valsU xs = q) (fun _ => True) N w) :
    CallsIn Fence.wide 7 Tryz.prog 139 #[.slice none 0 0, .func (.func g) #[] lb] w fun e w' => ∃ v, e = .returned v ∧ w'.ownsRow w.heap.size 42 1 v q.length (uV q) ∧ Below w.heap.size w w' := by
  have h1 : 1 ≤ 7 := by omega
  obtain ⟨i0, hi, hz0, hz1, hz2⟩ := info_parts infoU64
  refine callsIn_of_wp_marks Tryz.func139 rfl trivial ?_ rfl
  simp only [Tryz.ntmps139, List.size_toArray, List.length_cons, List.length_nil, Nat.reduceAdd, Nat.reduceSub, Array.replicate_succ, Array.replicate_zero, List.push_toArray, List.append_toArray, List.nil_append, List.cons_append]
  gi_wp2_with fail
  have k0 : (w.alloc (.cells #[.slice none 0 0] 163)).heap[w.heap.size]? = some (.cells #[.slice none 0 0] 163 (0, 0)) := heap_alloc_new w _
  have hb0 : Below w.heap.size w (w.alloc (.cells #[.slice none 0 0] 163)) := (Below.refl _ w).alloc (Nat.le_refl _) _
  have hsz : (w.alloc (.cells #[.slice none 0 0] 163)).heap.size = w.heap.size + 1 := by simp
  generalize w.alloc (.cells #[.slice none 0 0] 163) = W0 at *
  refine wpIn_rangeFunc_ownH rfl h1 (gf := g) (lb := lb) rfl trivial eg hseq (fun h k => h.trans k) (fun W l o o' h1 h2 h3 h4 => below_put W l o o' (by omega) h2 h3 h4) hb0 (fun _ => rfl)
    (fun pre W => (∃ v, W.heap[w.heap.size]? = some (.cells #[v] 163 (0, 0)) ∧ W.ownsRow w.heap.size 42 1 v pre.length (uV (valsU pre))) ∧ Below w.heap.size w W)
    (fun _ _ _ => False)
    (OwnFrom.and (Own.from (fun s A B row hs hg hr => by
      obtain ⟨v, hv, hrow⟩ := hs
      refine ⟨v, (hg.block _ (Array.getElem?_eq_some_iff.1 hv).1 (fun e => ?_)).trans hv, ownsRow_own hrow hg hr⟩
      obtain ⟨o, ho, hc⟩ := hr _ e.symm
      rw [hv] at ho
      injection ho with ho
      subst ho
      cases hc) _) (ownFrom_below (Nat.le_refl _) (by omega)))
    (fun cd => Own.from (fun s A B row hs hg hr => hs) _)
    ⟨⟨_, k0, rfl, Or.inl ⟨rfl, rfl⟩⟩, hb0⟩
    (fun x a' _ => a' = { tmps := #[.slice none 0 0, .func (.func g) #[] lb, PV w.heap.size, undef, .slice none 0 0, .int .u64 (x.1 : Nat), .func (.func g) #[] lb, .int .u64 (x.1 : Nat), undef, undef, undef, undef, undef], defers := [] })
    (fun x a' _ X W' row hs hg hr => hs)
    ?assign ?body ?done ?stop
  case assign =>
    rintro l pre ⟨x, hx⟩ W K hI hK
    have HK := Lib.hid hK
    have HI := Lib.hid hI
    clear hK hI
    simp only [encU]
    gi_wp2
    exact HK.out _ _ (KeepsFrom.refl _ _) (Below.refl _ _) HI.out rfl
  case body =>
    rintro l pre ⟨x, hx⟩ a' W hl _ ⟨⟨v, hv, hrow⟩, hB⟩ rfl hlt
    obtain ⟨c1, f1⟩ := heap_box hv
    have HI := Lib.hid (And.intro hv (And.intro hrow (And.intro hB (And.intro hlt (And.intro hsz hl)))))
    obtain ⟨m, hm⟩ : ∃ m, pre.length = m := ⟨_, rfl⟩
    have hmN : m ≤ 100000 := by omega
    rw [hm] at HI
    clear hv hrow hB hlt hm
    gi_wp2_with (gi_at_builtin; refine wpListIn_append_own_at _ rfl _ _ 163 rfl w.heap.size 42 i0 (.int .u64 0) 1 8 Tryz.underlying163 hi hz0 hz1 hz2 rfl (by decide) _ _ _ rfl (HI.out.2.1.alloc _) ⟨W.heap.size, 0, none⟩ 1 1 [.int .u64 x] rfl rfl (cell_one_new _ _ _) ?c2 ?c3 ?c4 ?c5 ?_)
    case c2 => simp [Value.oneCell']
    case c3 => unfold maxLen; omega
    case c4 => omega
    case c5 => have := HI.out.2.2.1.size; simp; omega
    intro v' w1 hown hgrow _ hat
    obtain ⟨g', cap', cur', rfl, hbase', hgb', hr1, hr2, hr3, hr4⟩ := hown.2.resolve_left (by rintro ⟨_, h⟩; exact absurd h (by simp))
    obtain ⟨hv, hrow, hB, hlt, hsz, hl⟩ := HI.out
    have hBW := hB.size
    have hbl := (Array.getElem?_eq_some_iff.1 hv).1
    have hne : v.ownBlock ≠ some w.heap.size := fun e' => by
      rcases hrow.2 with ⟨rfl, _⟩ | ⟨g0, cap, cur, rfl, _, hgb, _⟩
      · cases e'
      · have : g0 = w.heap.size := by simpa [Value.ownBlock] using e'
        subst this
        rw [hgb] at hv
        injection hv with hv
        injection hv with _ hv
        exact absurd hv (by decide)
    have hv1 : w1.heap[w.heap.size]? = some (.cells #[v] 163 (0, 0)) := by
      rw [hgrow.block _ (by simp; omega) (fun e => hne e.symm), heap_alloc_old W _ hbl]
      exact hv
    have hg' : g' ≠ w.heap.size := fun e => by
      subst e
      rw [hgb'] at hv1
      injection hv1 with hv1
      injection hv1 with _ hv1
      exact absurd hv1 (by decide)
    have hbA : Below w.heap.size W w1 := ((Below.refl _ W).mono hBW |>.alloc hBW (.cells #[.int .u64 x] 42)).grown hgrow (by simp; omega) (fun k e => (hrow.lt k e).1)
    have hk1 : KeepsFrom W0.heap.size W w1 := ((KeepsOthers.alloc W (.cells #[.int .u64 x] 42)).from _).trans (keepsFrom_of_row (hrow.alloc _) hgrow)
    obtain ⟨d1, e1⟩ := heap_box hv1
    have HW := Lib.hid (And.intro hv1 (And.intro hgb' (And.intro hg' (And.intro hbA (And.intro hk1 (And.intro hown (And.intro hbase' (And.intro hr1 (And.intro hr2 (And.intro hr3 hr4))))))))))
    clear hv1 hgb' hg' hbA hk1 hown hbase' hr1 hr2 hr3 hr4 hgrow hat hne hbl hBW hv hrow hB hlt hl
    gi_wp2_with fail
    have hbB := HW.out.2.2.2.1.setCell (p := ⟨w.heap.size, 0, none⟩) (Nat.le_refl w.heap.size) (.slice (some ⟨g', 0, none⟩) (m + 1) cap')
    refine ⟨HW.out.2.2.2.2.1.trans ((KeepsOthers.setCell _ _ _).from _), hbB, ⟨_, heap_setCell HW.out.1, ?_⟩, HI.out.2.2.1.trans hbB⟩
    have hl1 : (pre ++ [(⟨x, hx⟩ : U64)]).length = m + 1 := by have := HW.out.2.2.2.2.2.1.1; simp [uV, valsU] at this ⊢; omega
    have hl2 : uV (valsU (pre ++ [(⟨x, hx⟩ : U64)])) = uV (valsU pre) ++ [.int .u64 x] := by simp [uV, valsU]
    rw [hl1, hl2]
    exact ⟨HW.out.2.2.2.2.2.1.1, Or.inr ⟨g', cap', cur', rfl, HW.out.2.2.2.2.2.2.1, (heap_setCell_ne HW.out.2.2.1).trans HW.out.2.1, HW.out.2.2.2.2.2.2.2⟩⟩
  case done =>
    rintro D ys W hD hS ⟨⟨v, hv, hrow⟩, hB⟩ hK
    obtain ⟨c1, f1⟩ := heap_box hv
    have hvl : ys.length = q.length := by rw [← hS]; simp [valsU]
    rw [hS, hvl] at hrow
    have HI := Lib.hid (And.intro hrow (And.intro hB (And.intro hv (And.intro hvl hS))))
    clear hrow hB hv hvl hS f1
    gi_wp2
    refine ⟨by simp, .inl ⟨_, _, rfl, run_takeDeferred hK, ?_⟩⟩
    refine ⟨v, by simp [results, Tryz.f139, go_sem], v, rfl, ?_, HI.out.2.1.trans (below_put W D _ _ (by omega) hK rfl rfl)⟩
    exact ownsRow_own HI.out.1 (grownBy_putObj' W D _) (fun r e => by cases e; exact ⟨_, hK, rfl⟩)
  case stop =>
    rintro D cd pre W hD hpre hF
    exact hF.elim
end Go.Proofs.YtepdkbmnkjfcpaaGreatDoor

namespace Go.Proofs.YtepdkbmnkjfcpaaGreatDoor
open Go.RowKit Go.BigFrame Go.Maps Go.WideMaps Lf
open Go.Shelf

theorem rowU_of_owns {w : World} {B : Nat} {v : Value} {q : List Nat} (h : w.ownsRow B 42 1 v q.length (uV q)) (hq : q ≠ []) : RowU w B v q := by
  rcases h.2 with ⟨_, hx⟩ | ⟨g, cap, cur, hv, hb, hg, h1, h2, h3, h4⟩
  · exact absurd (List.length_eq_zero_iff.1 hx) hq
  · refine ⟨g, cap, hv, hb, fun i hi => ?_⟩
    rw [cell_of_block hg]
    have : (cur.toList.take (q.length * 1))[i]? = (uV q)[i]? := by rw [h4]
    rw [List.getElem?_take_of_lt (by omega), Array.getElem?_toList] at this
    rw [this]
    simp [uV, List.getElem?_eq_getElem hi]

set_option maxRecDepth 100000 in
set_option maxHeartbeats 400000 in
theorem collect_words {w : World} {g : Nat} {lb : Array Value} {q : List Nat} {N : Nat} (hN : N ≤ 100000) (eg : ∀ args w, (callFunc g args).run Tryz.prog w = .ok (.enter g args) w)
    (hseq : SeqStopsK Fence.wide 6 Tryz.prog g lb encU (Below w.heap.size) (fun xs => valsU xs = q) (fun _ => True) N w) :
    Calls Tryz.prog 104 #[.func (.func g) #[] lb] w fun e w' => ∃ v, e = .returned v ∧ w'.ownsRow w.heap.size 42 1 v q.length (uV q) ∧ Below w.heap.size w w' := by
  have ha := callsIn_wide.1 (append_seq hN eg hseq)
  have HA := Lib.hid ha
  clear ha hseq eg
  go_enter Tryz.func104, Tryz.ntmps104
  go_wp2_with fail
  refine HA.out.mono ?_
  rintro e w1 ⟨v, rfl, hr⟩
  have HR := Lib.hid hr
  clear hr
  go_wp2_with fail
  go_ret
  exact ⟨_, rfl, HR.out⟩

theorem infoU8 : (Tryz.prog.info? 5).map (fun i => (i.zero, i.size, i.bytes)) = some (some (.int .u8 0), 1, 1) := by kernel_rfl
def bV (l : List UInt8) (k : Nat) : List Value := (List.range k).map fun i => Value.int .u8 (byteAt l i : Nat)

theorem conv_nil (w : World) : (convert 209 9 (.slice none 0 0)).run Tryz.prog w = .ok (.string ⟨#[]⟩) w := by kernel_rfl
theorem conv_back {w : World} {B : Nat} {v : Value} {l : List UInt8} (h : w.ownsRow B 5 1 v l.length (bV l l.length)) : (convert 209 9 v).run Tryz.prog w = .ok (SV l) w := by
  rcases h.2 with ⟨rfl, hx⟩ | ⟨g, cap, cur, rfl, hb, hg, h1, h2, h3, h4⟩
  · obtain rfl := List.length_eq_zero_iff.1 hx
    exact conv_nil w
  · refine run_convert_bytes_back (P := Tryz.prog) w _ _ 5 ⟨g, 0, none⟩ cap l Tryz.underlying209 Tryz.underlying5 Tryz.underlying9 (fun j hj => ?_)
    have hadd : (⟨g, 0, none⟩ : Addr).add j = ⟨g, j, none⟩ := by unfold Addr.add; split <;> simp_all
    rw [hadd, cell_of_block hg]
    have : (cur.toList.take (l.length * 1))[j]? = (bV l l.length)[j]? := by rw [h4]
    rw [List.getElem?_take_of_lt (by omega), Array.getElem?_toList] at this
    rw [this]
    simp [bV, byteAt, List.getD_eq_getElem?_getD, hj]

set_option maxRecDepth 100000 in
set_option maxHeartbeats 1600000 in
theorem text_of {w : World} {B : Nat} {v : Value} {l : List UInt8} (h : RowU w B v (wordsOf l)) (hl : l.length ≤ 1000) :
    Calls Tryz.prog 103 #[v] w fun e w' => e = .returned (.tuple #[SV l, .int .i64 0]) ∧ Below w.heap.size w w' := by
  have hm := fun W => text_many l.length W (by omega)
  rw [← wordsOf_many l hl] at hm
  have hwo := fun W => text_words l W hl
  have hwl := wordsOf_length l
  have hh0 : ∃ r, wordsOf l = l.length :: r := ⟨_, rfl⟩
  obtain ⟨i0, hi, hz0, hz1, hz2⟩ := info_parts infoU8
  have h' := h
  obtain ⟨G, c, rfl, hB, hc⟩ := h
  obtain ⟨n, hn⟩ : ∃ n, l.length = n := ⟨_, rfl⟩
  obtain ⟨m, hm'⟩ : ∃ m, (wordsOf l).length = m := ⟨_, rfl⟩
  have c0 : w.cell? ⟨G, 0, none⟩ = some (.int .u64 n) := by
    have := hc 0 (by omega)
    obtain ⟨r, hr⟩ := hh0
    rw [this]
    simp [hr, hn]
  have hcs : ∀ i, i < n → w.cell? ⟨G, 1 + i / 8, none⟩ = some (.int .u64 (cell l (i / 8) 8 : Nat)) := fun i hi => by
    have h1 := wordsOf_at l i (by omega)
    obtain ⟨h2, h3⟩ := List.getElem?_eq_some_iff.1 h1
    rw [hc _ h2, h3]
  rw [hm', hn] at hm
  rw [hm'] at hwl
  rw [hn] at hwl hl
  have hm0 : ((m : Int) == 0) = false := by simp; omega
  have hn1 : (n : Int) ≤ 1000 := by omega
  have hmm : m ≤ 200 := by omega
  have hm00 : (0 : Int) < m := by omega
  have HG := Lib.hid (And.intro hm (And.intro hwo (And.intro h' (And.intro hn (And.intro hm' (And.intro hcs hwl))))))
  rw [hm']
  clear hm hwo h' hn hm' hcs hwl hB hc hh0
  go_enter Tryz.func103, Tryz.ntmps103
  go_wp2_with fail
  refine (HG.out.1 _).mono ?_
  rintro e w1 ⟨rfl, rfl⟩
  go_wp2_with fail
  go_loopw [4, 5, 32] (fun v _ i wr => ∃ k : Nat, k ≤ n ∧ i = .int .i64 k ∧ wr.ownsRow w.heap.size 5 1 v k (bV l k) ∧ Below w.heap.size w wr) (fun _ _ i _ => n - (intOf i).toNat)
  case atStart => exact ⟨0, by omega, rfl, ⟨rfl, Or.inl ⟨rfl, rfl⟩⟩, Below.refl _ _⟩
  case round =>
    obtain ⟨k, hk, rfl, hrow, hB⟩ := hrel
    by_cases hlt : k < n
    · have hlt' : (k : Int) < n := by omega
      have hG : G < w.heap.size := by
        unfold World.cell? at c0
        split at c0
        · rename_i heq; exact (Array.getElem?_eq_some_iff.1 heq).1
        · cases c0
      have hc1 := (hB.cell (p := ⟨G, 1 + k / 8, none⟩) hG).trans (HG.out.2.2.2.2.2.1 k hlt)
      have hby := cell_byte l (k / 8) (7 - k % 8) (k % 8) (by omega)
      rw [show 8 * (k / 8) + k % 8 = k by omega] at hby
      obtain ⟨q, hq⟩ : ∃ q, k / 8 = q := ⟨_, rfl⟩
      obtain ⟨r, hr⟩ : ∃ r, k % 8 = r := ⟨_, rfl⟩
      obtain ⟨s, hs⟩ : ∃ s, 8 * (7 - r) = s := ⟨_, rfl⟩
      have hr8 : r < 8 := by omega
      rw [hr, hs] at hby
      rw [hq] at hc1 hby
      have hqm : 1 + q < m := by have := HG.out.2.2.2.2.2.2; omega
      have hq' : (k : Int) / 8 = (q : Int) := by omega
      have hr' : (k : Int) % 8 = (r : Int) := by omega
      have hs' : 8 * (7 - (r : Int)) = (s : Int) := by omega
      have hx := cell_lt l q 8 (Nat.le_refl _)
      generalize cell l q 8 = x at *
      have HI := Lib.hid (And.intro hrow (And.intro hB hby))
      have hs56 : s ≤ 56 := by omega
      clear hrow hB hby hq hr hs
      go_wp2_with (at_builtin; refine wpList_append_own_at _ rfl _ _ 209 rfl w.heap.size 5 i0 (.int .u8 0) 1 1 Tryz.underlying209 hi hz0 hz1 hz2 rfl (by decide) _ _ _ rfl (HI.out.1.alloc _) ⟨wr.heap.size, 0, none⟩ 1 1 [.int .u8 (byteAt l k : Nat)] rfl rfl ?c1 ?c2 ?c3 ?c4 ?c5 ?_)
      case c1 =>
        rw [show ((x : Int) / 2 ^ s % 256) = ((byteAt l k : Nat) : Int) by rw [← HI.out.2.2]; push_cast; rfl]
        exact cell_one_new _ _ _
      case c2 => simp [Value.oneCell']
      case c3 => unfold maxLen; omega
      case c4 => omega
      case c5 => have := HI.out.2.1.size; simp; omega
      intro v' w1 hown hgrow _ hat
      have hBW := HI.out.2.1.size
      have hbA : Below w.heap.size wr w1 := ((Below.refl _ wr).mono hBW |>.alloc hBW (.cells #[.int .u8 ((x : Int) / 2 ^ s % 256)] 5)).grown hgrow (by simp; omega) (fun k e => (HI.out.1.lt k e).1)
      have hbv : bV l k ++ [.int .u8 (byteAt l k : Nat)] = bV l (k + 1) := by simp [bV, List.range_succ]
      rw [hbv] at hown
      have HW := Lib.hid (And.intro hown (HI.out.2.1.trans hbA))
      clear hown hgrow hat hBW hbA hbv
      go_wp2_with fail
      go_roundw
      case rel => exact ⟨k + 1, by omega, by simp, HW.out⟩
      case measure => simp [intOf]; omega
    · obtain rfl : k = n := by omega
      have hcv : (convert 209 9 u4).run Tryz.prog wr = .ok (SV l) wr := conv_back (by rw [HG.out.2.2.2.1]; exact hrow)
      have HI := Lib.hid hB
      clear hrow hB
      go_wp2_with fail
      refine (HG.out.2.1 wr).mono ?_
      rintro e w2 ⟨v2, rfl, hr2, hb2⟩
      have hr1 := (HG.out.2.2.1.below HI.out).below hb2
      have heq := words_equal hr2 hr1 (by rw [HG.out.2.2.2.2.1]; omega)
      rw [HG.out.2.2.2.2.1] at heq
      have HE := Lib.hid (And.intro heq (HI.out.trans (hb2.mono HI.out.size)))
      clear hr2 hr1 hb2 heq
      go_wp2_with fail
      refine HE.out.1.mono ?_
      rintro e w3 ⟨rfl, q, rfl⟩
      go_wp2_with fail
      go_ret2
      exact ⟨rfl, HE.out.2.trans ⟨rfl, rfl, rfl, Nat.le_refl _, fun _ _ => rfl⟩⟩
end Go.Proofs.YtepdkbmnkjfcpaaGreatDoor

namespace Go.Proofs.YtepdkbmnkjfcpaaGreatDoor
open Go.RowKit Go.BigFrame Go.Maps Go.WideMaps Lf
open Go.Shelf

set_option maxRecDepth 100000 in
set_option maxHeartbeats 800000 in
theorem blob_get {w : World} {ps : Nat} {S : St} {Y : Nat → Prop} (h : StOn w ps S Y) (hi : Inv S) (hh : Nat) (hl : hh < 18446744073709551616) (hg : (getBlob S hh).2 ≠ 8) :
    Calls Tryz.prog 73 #[PV ps, .int .u64 hh] w fun e w' => e = .returned (.tuple #[SV (getBlob S hh).1, .int .i64 ((getBlob S hh).2 : Nat)]) ∧ Below w.heap.size w w' := by
  have hle := st_len h hi hh hl
  obtain ⟨R, hR⟩ : ∃ R, getBlob S hh = R := ⟨_, rfl⟩
  rw [hR] at hg ⊢
  unfold getBlob at hR
  obtain ⟨⟨n, er⟩, hn⟩ : ∃ r, S.len hh = r := ⟨_, rfl⟩
  rw [hn] at hle hR
  simp only at hle
  cases er with
  | succ er =>
    have hR1 : R = ([], er + 1) := by rw [← hR]; rfl
    have hq1 : (((er + 1 : Nat) : Int) != 0) = true := by simp; omega
    obtain ⟨g1, hg1⟩ : ∃ g1, er + 1 = g1 := ⟨_, rfl⟩
    rw [hg1] at hle hR1 hq1
    have HG := Lib.hid (And.intro hle hR1)
    clear hle hR hR1 hg1 hg h hi hn
    go_enter Tryz.func73, Tryz.ntmps73
    go_wp2_with fail
    refine HG.out.1.mono ?_
    rintro e w1 ⟨rfl, rfl⟩
    go_wp2_with fail
    go_ret2
    obtain rfl := HG.out.2
    exact ⟨rfl, Below.refl _ _⟩
  | zero =>
    cases ht : textOf (recWords S hh) with
    | none =>
      rw [ht] at hR
      exact absurd (by rw [← hR]; rfl) hg
    | some t =>
      have hR1 : R = (t, 0) := by rw [← hR, ht]; rfl
      obtain ⟨htl, hrw⟩ := textOf_some ht
      have HG := Lib.hid (And.intro hle (And.intro hR1 (And.intro h (And.intro hi (And.intro hrw htl)))))
      clear hle hR hR1 hg h hi hn ht hrw htl
      go_enter Tryz.func73, Tryz.ntmps73
      go_wp2_with fail
      refine HG.out.1.mono ?_
      rintro e w1 ⟨rfl, rfl⟩
      go_wp2_with fail
      refine (blob_words ps hh w).mono ?_
      rintro e w1 ⟨rfl, hw1⟩
      have hb : Below w.heap.size w w1 := by rw [hw1]; exact ((Below.refl _ w).alloc (Nat.le_refl _) _).alloc (by simp) _
      have hsz : w1.heap.size = w.heap.size + 2 := by rw [hw1]; simp
      have k0 : w1.cell? ⟨w.heap.size, 0, none⟩ = some (PV ps) := by
        have : w1.heap[w.heap.size]? = some (.cells #[PV ps] 25 (0, 0)) := by rw [hw1, heap_alloc_old _ _ (by simp)]; exact heap_alloc_new w _
        rw [cell_of_block this]; rfl
      have k1 : w1.cell? ⟨w.heap.size + 1, 0, none⟩ = some (.int .u64 hh) := by
        have h0 : w1.heap[w.heap.size + 1]? = some (.cells #[.int .u64 hh] 43 (0, 0)) := by
          have := heap_alloc_new (w.alloc (.cells #[PV ps] 25)) (.cells #[.int .u64 hh] 43)
          rw [World.size_alloc] at this
          rw [hw1]; exact this
        rw [cell_of_block h0]; rfl
      have hst := words_stops (HG.out.2.2.1.below hb) HG.out.2.2.2.1 hh hl w.heap.size (w.heap.size + 1) ⟨by omega, k0⟩ ⟨by omega, k1⟩
      rw [HG.out.2.2.2.2.1] at hst
      have hco := collect_words (by omega) (enters_of Tryz.func140 (by kernel_rfl) rfl) hst
      have HC := Lib.hid (And.intro hco hb)
      clear hst hco hb hsz k0 k1 hw1
      go_wp2_with fail
      refine HC.out.1.mono ?_
      rintro e w2 ⟨v, rfl, hrow, hb2⟩
      have hru := rowU_of_owns hrow (by unfold wordsOf; simp)
      have hof := text_of hru HG.out.2.2.2.2.2
      have HO := Lib.hid (And.intro hof (HC.out.2.trans (hb2.mono HC.out.2.size)))
      clear hrow hb2 hru hof
      go_wp2_with fail
      refine HO.out.1.mono ?_
      rintro e w3 ⟨rfl, hb3⟩
      have HB := Lib.hid (HO.out.2.trans (hb3.mono HO.out.2.size))
      clear hb3
      go_wp2_with fail
      go_ret2
      obtain rfl := HG.out.2.1
      exact ⟨rfl, HB.out⟩

theorem cmpB_eq : ∀ (a b : List UInt8), cmpB a b = Lib.compareBytes a b
  | [], [] => rfl
  | [], _ :: _ => rfl
  | _ :: _, [] => rfl
  | a :: l, b :: m => by
    unfold cmpB Lib.compareBytes
    rw [cmpB_eq l m]

set_option maxRecDepth 100000 in
set_option maxHeartbeats 400000 in
theorem strings_compare (a b : List UInt8) (w : World) :
    Calls Tryz.prog 101 #[SV a, SV b] w fun e w' => e = .returned (.int .i64 (cmpB a b)) ∧ w' = w := by
  have hc := Tryz.bytealg_CompareString ⟨a.toArray⟩ ⟨b.toArray⟩ w
  rw [cmpB_eq]
  have HC := Lib.hid hc
  clear hc
  go_enter Tryz.func101, Tryz.ntmps101
  go_wp2_with fail
  refine HC.out.mono ?_
  rintro e w1 ⟨rfl, rfl⟩
  go_wp2_with fail
  go_ret
  exact ⟨rfl, rfl⟩
set_option maxRecDepth 100000 in
set_option maxHeartbeats 400000 in
theorem text_compare (a b : List UInt8) (w : World) :
    Calls Tryz.prog 66 #[SV a, SV b] w fun e w' => e = .returned (.int .i64 (cmpB a b)) ∧ w' = w := by
  have HC := Lib.hid (strings_compare a b w)
  go_enter Tryz.func66, Tryz.ntmps66
  go_wp2_with fail
  refine HC.out.mono ?_
  rintro e w1 ⟨rfl, rfl⟩
  go_wp2_with fail
  go_ret
  exact ⟨rfl, rfl⟩
end Go.Proofs.YtepdkbmnkjfcpaaGreatDoor
