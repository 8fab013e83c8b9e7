/- Blobs: the words of a record as a row: AppendSeq, Collect: the walks. Blobs: Collect; the text of a row of words; Get: the walks. Blobs: Get; texts: Compare: the walks. Nodes: Put, Make: the walks. What walks, joined trees and their parts compute, where all is well (none: not looked at here): plain Lean, no program in sight. A region that draws its order, some of whose operations only read what the calls leave as it was, and whose others come in one forced order (the calls, each handed what the one ahead of it gave): one walk: the reads first, in a told order, then the others, in a told order. Trees taken apart and put together: of, asked: the walks. A region that draws its order, walked in a told order: an operation that only reads what all others leave as it was is taken ahead of those that could come with it; of the others there must be one alone that may come. Backends of binary trees: size, rank, item, at, without: the walks. Backends of binary trees: insert: the walk. Trees of any kind: none, Len, Rank, At: the walks. A region that draws its order, walked by a plan: as in wp_region_mix; and where two operations may come, both orders are walked. -/
import Derived.Test.YtepdkbmnkjfcpaaGreatDoorVak
import Derived.Maps.OwnIn
import Derived.Test.YtepdkbmnkjfcpaaGreatDoorVah
import Derived.Laws.BytesString
import Derived.Test.YtepdkbmnkjfcpaaGreatDoorVab
import Derived.Lib.ItoaWalk
import Derived.Deep.RegionHeld3
import Derived.Test.YtepdkbmnkjfcpaaGreatDoorVad
import Derived.Laws.EntriesVeiled
import Derived.OwnWalk
set_option maxRecDepth 100000
set_option maxHeartbeats 1600000
namespace Go.Proofs.YtepdkbmnkjfcpaaGreatDoor
open Go.RowKit Go.BigFrame Go.Maps Go.WideMaps Lf
open Go.Shelf
attribute [local go_sem] Oper.semAt_some
theorem keepsFrom_of_row {W W' : World} {base B : Nat} {e : TypeId} {size : Nat} {v : Value} {k : Nat} {xs : List Value} (h : W.ownsRow base e size v k xs) (hg : W.grownBy W' v.ownBlock) : KeepsFrom B W W' :=
  ⟨hg.size, fun j o _ hj ho => (hg.block j (Array.getElem?_eq_some_iff.1 hj).1 (fun e' => by
    rcases h.2 with ⟨rfl, _⟩ | ⟨g, cap, cur, rfl, _, hgb, _⟩
    · cases e'
    · have : j = g := by simpa [Value.ownBlock] using e'
      subst this
      rw [hgb] at hj
      injection hj with hj
      subst hj
      cases ho)).trans hj⟩
theorem below_put {n : Nat} (W : World) (l : Nat) (o o' : Obj) (hl : n ≤ l) (_ : W.heap[l]? = some o) (_ : o.isCells = false) (_ : o.isWalk = false) : Below n W (W.putObj l o') :=
  ⟨rfl, rfl, rfl, by simp, fun k hk => World.putObj_heap_other (by omega)⟩
theorem ownsRow_own {W W' : World} {row : Option Nat} {base : Nat} {e : TypeId} {size : Nat} {v : Value} {k : Nat} {xs : List Value} (h : W.ownsRow base e size v k xs) (hg : W.grownBy W' row) (hr : ∀ r, row = some r → ∃ o : Obj, W.heap[r]? = some o ∧ o.isCells = false) : W'.ownsRow base e size v k xs := by
  refine h.kept hg ?_
  rcases h.2 with ⟨rfl, _⟩ | ⟨g, cap, cur, rfl, _, hgb, _⟩
  · exact Or.inl rfl
  · refine Or.inr fun e' => ?_
    obtain ⟨o, ho, hc⟩ := hr g (by rw [← e']; rfl)
    rw [hgb] at ho
    injection ho with ho
    subst ho
    cases hc
theorem heap_box {W : World} {B : Nat} {v : Value} {t : TypeId} (h : W.heap[B]? = some (.cells #[v] t (0, 0))) : W.cell? ⟨B, 0, none⟩ = some v ∧ W.frozen? ⟨B, 0, none⟩ = false := ⟨by rw [cell_of_block h]; rfl, frozen_of_block h⟩
def uV (q : List Nat) : List Value := q.map fun x : Nat => Value.int .u64 x
theorem append_seq {w : World} {g : Nat} {lb : Array Value} {q : List Nat} {N : Nat} (hN : N ≤ 100000) (eg : ∀ args w, (callFunc g args).run Tryz.prog w = .ok (.enter g args) w)
    (hseq : SeqStopsK Fence.wide 6 Tryz.prog g lb encU (Below w.heap.size) (fun xs => valsU xs = q) (fun _ => True) N w) :
    CallsIn Fence.wide 7 Tryz.prog 139 #[.slice none 0 0, .func (.func g) #[] lb] w fun e w' => ∃ v, e = .returned v ∧ w'.ownsRow w.heap.size 42 1 v q.length (uV q) ∧ Below w.heap.size w w' := by
  have h1 : 1 ≤ 7 := by omega
  obtain ⟨i0, hi, hz0, hz1, hz2⟩ := info_parts infoU64
  refine callsIn_of_wp_marks Tryz.func139 rfl trivial ?_ rfl
  simp only [Tryz.ntmps139, List.size_toArray, List.length_cons, List.length_nil, Nat.reduceAdd, Nat.reduceSub, Array.replicate_succ, Array.replicate_zero, List.push_toArray, List.append_toArray, List.nil_append, List.cons_append]
  gi_wp2_with fail
  have k0 : (w.alloc (.cells #[.slice none 0 0] 163)).heap[w.heap.size]? = some (.cells #[.slice none 0 0] 163 (0, 0)) := heap_alloc_new w _
  have hb0 : Below w.heap.size w (w.alloc (.cells #[.slice none 0 0] 163)) := (Below.refl _ w).alloc (Nat.le_refl _) _
  have hsz : (w.alloc (.cells #[.slice none 0 0] 163)).heap.size = w.heap.size + 1 := by simp
  generalize w.alloc (.cells #[.slice none 0 0] 163) = W0 at *
  refine wpIn_rangeFunc_ownH rfl h1 (gf := g) (lb := lb) rfl trivial eg hseq (fun h k => h.trans k) (fun W l o o' h1 h2 h3 h4 => below_put W l o o' (by omega) h2 h3 h4) hb0 (fun _ => rfl)
    (fun pre W => (∃ v, W.heap[w.heap.size]? = some (.cells #[v] 163 (0, 0)) ∧ W.ownsRow w.heap.size 42 1 v pre.length (uV (valsU pre))) ∧ Below w.heap.size w W)
    (fun _ _ _ => False)
    (OwnFrom.and (Own.from (fun s A B row hs hg hr => by
      obtain ⟨v, hv, hrow⟩ := hs
      refine ⟨v, (hg.block _ (Array.getElem?_eq_some_iff.1 hv).1 (fun e => ?_)).trans hv, ownsRow_own hrow hg hr⟩
      obtain ⟨o, ho, hc⟩ := hr _ e.symm
      rw [hv] at ho
      injection ho with ho
      subst ho
      cases hc) _) (ownFrom_below (Nat.le_refl _) (by omega)))
    (fun cd => Own.from (fun s A B row hs hg hr => hs) _)
    ⟨⟨_, k0, rfl, Or.inl ⟨rfl, rfl⟩⟩, hb0⟩
    (fun x a' _ => a' = { tmps := #[.slice none 0 0, .func (.func g) #[] lb, PV w.heap.size, undef, .slice none 0 0, .int .u64 (x.1 : Nat), .func (.func g) #[] lb, .int .u64 (x.1 : Nat), undef, undef, undef, undef, undef], defers := [] })
    (fun x a' _ X W' row hs hg hr => hs)
    ?assign ?body ?done ?stop
  case assign =>
    rintro l pre ⟨x, hx⟩ W K hI hK
    have HK := Lib.hid hK
    have HI := Lib.hid hI
    clear hK hI
    simp only [encU]
    gi_wp2
    exact HK.out _ _ (KeepsFrom.refl _ _) (Below.refl _ _) HI.out rfl
  case body =>
    rintro l pre ⟨x, hx⟩ a' W hl _ ⟨⟨v, hv, hrow⟩, hB⟩ rfl hlt
    obtain ⟨c1, f1⟩ := heap_box hv
    have HI := Lib.hid (And.intro hv (And.intro hrow (And.intro hB (And.intro hlt (And.intro hsz hl)))))
    obtain ⟨m, hm⟩ : ∃ m, pre.length = m := ⟨_, rfl⟩
    have hmN : m ≤ 100000 := by omega
    rw [hm] at HI
    clear hv hrow hB hlt hm
    gi_wp2_with (gi_at_builtin; refine wpListIn_append_own_at _ rfl _ _ 163 rfl w.heap.size 42 i0 (.int .u64 0) 1 8 Tryz.underlying163 hi hz0 hz1 hz2 rfl (by decide) _ _ _ rfl (HI.out.2.1.alloc _) ⟨W.heap.size, 0, none⟩ 1 1 [.int .u64 x] rfl rfl (cell_one_new _ _ _) ?c2 ?c3 ?c4 ?c5 ?_)
    case c2 => simp [Value.oneCell']
    case c3 => unfold maxLen; omega
    case c4 => omega
    case c5 => have := HI.out.2.2.1.size; simp; omega
    intro v' w1 hown hgrow _ hat
    obtain ⟨g', cap', cur', rfl, hbase', hgb', hr1, hr2, hr3, hr4⟩ := hown.2.resolve_left (by rintro ⟨_, h⟩; exact absurd h (by simp))
    obtain ⟨hv, hrow, hB, hlt, hsz, hl⟩ := HI.out
    have hBW := hB.size
    have hbl := (Array.getElem?_eq_some_iff.1 hv).1
    have hne : v.ownBlock ≠ some w.heap.size := fun e' => by
      rcases hrow.2 with ⟨rfl, _⟩ | ⟨g0, cap, cur, rfl, _, hgb, _⟩
      · cases e'
      · have : g0 = w.heap.size := by simpa [Value.ownBlock] using e'
        subst this
        rw [hgb] at hv
        injection hv with hv
        injection hv with _ hv
        exact absurd hv (by decide)
    have hv1 : w1.heap[w.heap.size]? = some (.cells #[v] 163 (0, 0)) := by
      rw [hgrow.block _ (by simp; omega) (fun e => hne e.symm), heap_alloc_old W _ hbl]
      exact hv
    have hg' : g' ≠ w.heap.size := fun e => by
      subst e
      rw [hgb'] at hv1
      injection hv1 with hv1
      injection hv1 with _ hv1
      exact absurd hv1 (by decide)
    have hbA : Below w.heap.size W w1 := ((Below.refl _ W).mono hBW |>.alloc hBW (.cells #[.int .u64 x] 42)).grown hgrow (by simp; omega) (fun k e => (hrow.lt k e).1)
    have hk1 : KeepsFrom W0.heap.size W w1 := ((KeepsOthers.alloc W (.cells #[.int .u64 x] 42)).from _).trans (keepsFrom_of_row (hrow.alloc _) hgrow)
    obtain ⟨d1, e1⟩ := heap_box hv1
    have HW := Lib.hid (And.intro hv1 (And.intro hgb' (And.intro hg' (And.intro hbA (And.intro hk1 (And.intro hown (And.intro hbase' (And.intro hr1 (And.intro hr2 (And.intro hr3 hr4))))))))))
    clear hv1 hgb' hg' hbA hk1 hown hbase' hr1 hr2 hr3 hr4 hgrow hat hne hbl hBW hv hrow hB hlt hl
    gi_wp2_with fail
    have hbB := HW.out.2.2.2.1.setCell (p := ⟨w.heap.size, 0, none⟩) (Nat.le_refl w.heap.size) (.slice (some ⟨g', 0, none⟩) (m + 1) cap')
    refine ⟨HW.out.2.2.2.2.1.trans ((KeepsOthers.setCell _ _ _).from _), hbB, ⟨_, heap_setCell HW.out.1, ?_⟩, HI.out.2.2.1.trans hbB⟩
    have hl1 : (pre ++ [(⟨x, hx⟩ : U64)]).length = m + 1 := by have := HW.out.2.2.2.2.2.1.1; simp [uV, valsU] at this ⊢; omega
    have hl2 : uV (valsU (pre ++ [(⟨x, hx⟩ : U64)])) = uV (valsU pre) ++ [.int .u64 x] := by simp [uV, valsU]
    rw [hl1, hl2]
    exact ⟨HW.out.2.2.2.2.2.1.1, Or.inr ⟨g', cap', cur', rfl, HW.out.2.2.2.2.2.2.1, (heap_setCell_ne HW.out.2.2.1).trans HW.out.2.1, HW.out.2.2.2.2.2.2.2⟩⟩
  case done =>
    rintro D ys W hD hS ⟨⟨v, hv, hrow⟩, hB⟩ hK
    obtain ⟨c1, f1⟩ := heap_box hv
    have hvl : ys.length = q.length := by rw [← hS]; simp [valsU]
    rw [hS, hvl] at hrow
    have HI := Lib.hid (And.intro hrow (And.intro hB (And.intro hv (And.intro hvl hS))))
    clear hrow hB hv hvl hS f1
    gi_wp2
    refine ⟨by simp, .inl ⟨_, _, rfl, run_takeDeferred hK, ?_⟩⟩
    refine ⟨v, by simp [results, Tryz.f139, go_sem], v, rfl, ?_, HI.out.2.1.trans (below_put W D _ _ (by omega) hK rfl rfl)⟩
    exact ownsRow_own HI.out.1 (grownBy_putObj' W D _) (fun r e => by cases e; exact ⟨_, hK, rfl⟩)
  case stop =>
    rintro D cd pre W hD hpre hF
    exact hF.elim
end Go.Proofs.YtepdkbmnkjfcpaaGreatDoor
namespace Go.Proofs.YtepdkbmnkjfcpaaGreatDoor
open Go.RowKit Go.BigFrame Go.Maps Go.WideMaps Lf
open Go.Shelf
theorem rowU_of_owns {w : World} {B : Nat} {v : Value} {q : List Nat} (h : w.ownsRow B 42 1 v q.length (uV q)) (hq : q ≠ []) : RowU w B v q := by
  rcases h.2 with ⟨_, hx⟩ | ⟨g, cap, cur, hv, hb, hg, h1, h2, h3, h4⟩
  · exact absurd (List.length_eq_zero_iff.1 hx) hq
  · refine ⟨g, cap, hv, hb, fun i hi => ?_⟩
    rw [cell_of_block hg]
    have : (cur.toList.take (q.length * 1))[i]? = (uV q)[i]? := by rw [h4]
    rw [List.getElem?_take_of_lt (by omega), Array.getElem?_toList] at this
    rw [this]
    simp [uV, List.getElem?_eq_getElem hi]
theorem collect_words {w : World} {g : Nat} {lb : Array Value} {q : List Nat} {N : Nat} (hN : N ≤ 100000) (eg : ∀ args w, (callFunc g args).run Tryz.prog w = .ok (.enter g args) w)
    (hseq : SeqStopsK Fence.wide 6 Tryz.prog g lb encU (Below w.heap.size) (fun xs => valsU xs = q) (fun _ => True) N w) :
    Calls Tryz.prog 104 #[.func (.func g) #[] lb] w fun e w' => ∃ v, e = .returned v ∧ w'.ownsRow w.heap.size 42 1 v q.length (uV q) ∧ Below w.heap.size w w' := by
  have ha := callsIn_wide.1 (append_seq hN eg hseq)
  have HA := Lib.hid ha
  clear ha hseq eg
  go_enter Tryz.func104, Tryz.ntmps104
  go_wp2_with fail
  refine HA.out.mono ?_
  rintro e w1 ⟨v, rfl, hr⟩
  have HR := Lib.hid hr
  clear hr
  go_wp2_with fail
  go_ret
  exact ⟨_, rfl, HR.out⟩
theorem infoU8 : (Tryz.prog.info? 5).map (fun i => (i.zero, i.size, i.bytes)) = some (some (.int .u8 0), 1, 1) := by kernel_rfl
def bV (l : List UInt8) (k : Nat) : List Value := (List.range k).map fun i => Value.int .u8 (byteAt l i : Nat)
theorem conv_nil (w : World) : (convert 209 9 (.slice none 0 0)).run Tryz.prog w = .ok (.string ⟨#[]⟩) w := by kernel_rfl
theorem conv_back {w : World} {B : Nat} {v : Value} {l : List UInt8} (h : w.ownsRow B 5 1 v l.length (bV l l.length)) : (convert 209 9 v).run Tryz.prog w = .ok (SV l) w := by
  rcases h.2 with ⟨rfl, hx⟩ | ⟨g, cap, cur, rfl, hb, hg, h1, h2, h3, h4⟩
  · obtain rfl := List.length_eq_zero_iff.1 hx
    exact conv_nil w
  · refine run_convert_bytes_back (P := Tryz.prog) w _ _ 5 ⟨g, 0, none⟩ cap l Tryz.underlying209 Tryz.underlying5 Tryz.underlying9 (fun j hj => ?_)
    have hadd : (⟨g, 0, none⟩ : Addr).add j = ⟨g, j, none⟩ := by unfold Addr.add; split <;> simp_all
    rw [hadd, cell_of_block hg]
    have : (cur.toList.take (l.length * 1))[j]? = (bV l l.length)[j]? := by rw [h4]
    rw [List.getElem?_take_of_lt (by omega), Array.getElem?_toList] at this
    rw [this]
    simp [bV, byteAt, List.getD_eq_getElem?_getD, hj]
theorem text_of {w : World} {B : Nat} {v : Value} {l : List UInt8} (h : RowU w B v (wordsOf l)) (hl : l.length ≤ 1000) :
    Calls Tryz.prog 103 #[v] w fun e w' => e = .returned (.tuple #[SV l, .int .i64 0]) ∧ Below w.heap.size w w' := by
  have hm := fun W => text_many l.length W (by omega)
  rw [← wordsOf_many l hl] at hm
  have hwo := fun W => text_words l W hl
  have hwl := wordsOf_length l
  have hh0 : ∃ r, wordsOf l = l.length :: r := ⟨_, rfl⟩
  obtain ⟨i0, hi, hz0, hz1, hz2⟩ := info_parts infoU8
  have h' := h
  obtain ⟨G, c, rfl, hB, hc⟩ := h
  obtain ⟨n, hn⟩ : ∃ n, l.length = n := ⟨_, rfl⟩
  obtain ⟨m, hm'⟩ : ∃ m, (wordsOf l).length = m := ⟨_, rfl⟩
  have c0 : w.cell? ⟨G, 0, none⟩ = some (.int .u64 n) := by
    have := hc 0 (by omega)
    obtain ⟨r, hr⟩ := hh0
    rw [this]
    simp [hr, hn]
  have hcs : ∀ i, i < n → w.cell? ⟨G, 1 + i / 8, none⟩ = some (.int .u64 (cell l (i / 8) 8 : Nat)) := fun i hi => by
    have h1 := wordsOf_at l i (by omega)
    obtain ⟨h2, h3⟩ := List.getElem?_eq_some_iff.1 h1
    rw [hc _ h2, h3]
  rw [hm', hn] at hm
  rw [hm'] at hwl
  rw [hn] at hwl hl
  have hm0 : ((m : Int) == 0) = false := by simp; omega
  have hn1 : (n : Int) ≤ 1000 := by omega
  have hmm : m ≤ 200 := by omega
  have hm00 : (0 : Int) < m := by omega
  have HG := Lib.hid (And.intro hm (And.intro hwo (And.intro h' (And.intro hn (And.intro hm' (And.intro hcs hwl))))))
  rw [hm']
  clear hm hwo h' hn hm' hcs hwl hB hc hh0
  go_enter Tryz.func103, Tryz.ntmps103
  go_wp2_with fail
  refine (HG.out.1 _).mono ?_
  rintro e w1 ⟨rfl, rfl⟩
  go_wp2_with fail
  go_loopw [4, 5, 32] (fun v _ i wr => ∃ k : Nat, k ≤ n ∧ i = .int .i64 k ∧ wr.ownsRow w.heap.size 5 1 v k (bV l k) ∧ Below w.heap.size w wr) (fun _ _ i _ => n - (intOf i).toNat)
  case atStart => exact ⟨0, by omega, rfl, ⟨rfl, Or.inl ⟨rfl, rfl⟩⟩, Below.refl _ _⟩
  case round =>
    obtain ⟨k, hk, rfl, hrow, hB⟩ := hrel
    by_cases hlt : k < n
    · have hlt' : (k : Int) < n := by omega
      have hG : G < w.heap.size := by
        unfold World.cell? at c0
        split at c0
        · rename_i heq; exact (Array.getElem?_eq_some_iff.1 heq).1
        · cases c0
      have hc1 := (hB.cell (p := ⟨G, 1 + k / 8, none⟩) hG).trans (HG.out.2.2.2.2.2.1 k hlt)
      have hby := cell_byte l (k / 8) (7 - k % 8) (k % 8) (by omega)
      rw [show 8 * (k / 8) + k % 8 = k by omega] at hby
      obtain ⟨q, hq⟩ : ∃ q, k / 8 = q := ⟨_, rfl⟩
      obtain ⟨r, hr⟩ : ∃ r, k % 8 = r := ⟨_, rfl⟩
      obtain ⟨s, hs⟩ : ∃ s, 8 * (7 - r) = s := ⟨_, rfl⟩
      have hr8 : r < 8 := by omega
      rw [hr, hs] at hby
      rw [hq] at hc1 hby
      have hqm : 1 + q < m := by have := HG.out.2.2.2.2.2.2; omega
      have hq' : (k : Int) / 8 = (q : Int) := by omega
      have hr' : (k : Int) % 8 = (r : Int) := by omega
      have hs' : 8 * (7 - (r : Int)) = (s : Int) := by omega
      have hx := cell_lt l q 8 (Nat.le_refl _)
      generalize cell l q 8 = x at *
      have HI := Lib.hid (And.intro hrow (And.intro hB hby))
      have hs56 : s ≤ 56 := by omega
      clear hrow hB hby hq hr hs
      go_wp2_with (at_builtin; refine wpList_append_own_at _ rfl _ _ 209 rfl w.heap.size 5 i0 (.int .u8 0) 1 1 Tryz.underlying209 hi hz0 hz1 hz2 rfl (by decide) _ _ _ rfl (HI.out.1.alloc _) ⟨wr.heap.size, 0, none⟩ 1 1 [.int .u8 (byteAt l k : Nat)] rfl rfl ?c1 ?c2 ?c3 ?c4 ?c5 ?_)
      case c1 =>
        rw [show ((x : Int) / 2 ^ s % 256) = ((byteAt l k : Nat) : Int) by rw [← HI.out.2.2]; push_cast; rfl]
        exact cell_one_new _ _ _
      case c2 => simp [Value.oneCell']
      case c3 => unfold maxLen; omega
      case c4 => omega
      case c5 => have := HI.out.2.1.size; simp; omega
      intro v' w1 hown hgrow _ hat
      have hBW := HI.out.2.1.size
      have hbA : Below w.heap.size wr w1 := ((Below.refl _ wr).mono hBW |>.alloc hBW (.cells #[.int .u8 ((x : Int) / 2 ^ s % 256)] 5)).grown hgrow (by simp; omega) (fun k e => (HI.out.1.lt k e).1)
      have hbv : bV l k ++ [.int .u8 (byteAt l k : Nat)] = bV l (k + 1) := by simp [bV, List.range_succ]
      rw [hbv] at hown
      have HW := Lib.hid (And.intro hown (HI.out.2.1.trans hbA))
      clear hown hgrow hat hBW hbA hbv
      go_wp2_with fail
      go_roundw
      case rel => exact ⟨k + 1, by omega, by simp, HW.out⟩
      case measure => simp [intOf]; omega
    · obtain rfl : k = n := by omega
      have hcv : (convert 209 9 u4).run Tryz.prog wr = .ok (SV l) wr := conv_back (by rw [HG.out.2.2.2.1]; exact hrow)
      have HI := Lib.hid hB
      clear hrow hB
      go_wp2_with fail
      refine (HG.out.2.1 wr).mono ?_
      rintro e w2 ⟨v2, rfl, hr2, hb2⟩
      have hr1 := (HG.out.2.2.1.below HI.out).below hb2
      have heq := words_equal hr2 hr1 (by rw [HG.out.2.2.2.2.1]; omega)
      rw [HG.out.2.2.2.2.1] at heq
      have HE := Lib.hid (And.intro heq (HI.out.trans (hb2.mono HI.out.size)))
      clear hr2 hr1 hb2 heq
      go_wp2_with fail
      refine HE.out.1.mono ?_
      rintro e w3 ⟨rfl, q, rfl⟩
      go_wp2_with fail
      go_ret2
      exact ⟨rfl, HE.out.2.trans ⟨rfl, rfl, rfl, Nat.le_refl _, fun _ _ => rfl⟩⟩
end Go.Proofs.YtepdkbmnkjfcpaaGreatDoor
namespace Go.Proofs.YtepdkbmnkjfcpaaGreatDoor
open Go.RowKit Go.BigFrame Go.Maps Go.WideMaps Lf
open Go.Shelf
theorem blob_get {w : World} {ps : Nat} {S : St} {Y : Nat → Prop} (h : StOn w ps S Y) (hi : Inv S) (hh : Nat) (hl : hh < 18446744073709551616) (hg : (getBlob S hh).2 ≠ 8) :
    Calls Tryz.prog 73 #[PV ps, .int .u64 hh] w fun e w' => e = .returned (.tuple #[SV (getBlob S hh).1, .int .i64 ((getBlob S hh).2 : Nat)]) ∧ Below w.heap.size w w' := by
  have hle := st_len h hi hh hl
  obtain ⟨R, hR⟩ : ∃ R, getBlob S hh = R := ⟨_, rfl⟩
  rw [hR] at hg ⊢
  unfold getBlob at hR
  obtain ⟨⟨n, er⟩, hn⟩ : ∃ r, S.len hh = r := ⟨_, rfl⟩
  rw [hn] at hle hR
  simp only at hle
  cases er with
  | succ er =>
    have hR1 : R = ([], er + 1) := by rw [← hR]; rfl
    have hq1 : (((er + 1 : Nat) : Int) != 0) = true := by simp; omega
    obtain ⟨g1, hg1⟩ : ∃ g1, er + 1 = g1 := ⟨_, rfl⟩
    rw [hg1] at hle hR1 hq1
    have HG := Lib.hid (And.intro hle hR1)
    clear hle hR hR1 hg1 hg h hi hn
    go_enter Tryz.func73, Tryz.ntmps73
    go_wp2_with fail
    refine HG.out.1.mono ?_
    rintro e w1 ⟨rfl, rfl⟩
    go_wp2_with fail
    go_ret2
    obtain rfl := HG.out.2
    exact ⟨rfl, Below.refl _ _⟩
  | zero =>
    cases ht : textOf (recWords S hh) with
    | none =>
      rw [ht] at hR
      exact absurd (by rw [← hR]; rfl) hg
    | some t =>
      have hR1 : R = (t, 0) := by rw [← hR, ht]; rfl
      obtain ⟨htl, hrw⟩ := textOf_some ht
      have HG := Lib.hid (And.intro hle (And.intro hR1 (And.intro h (And.intro hi (And.intro hrw htl)))))
      clear hle hR hR1 hg h hi hn ht hrw htl
      go_enter Tryz.func73, Tryz.ntmps73
      go_wp2_with fail
      refine HG.out.1.mono ?_
      rintro e w1 ⟨rfl, rfl⟩
      go_wp2_with fail
      refine (blob_words ps hh w).mono ?_
      rintro e w1 ⟨rfl, hw1⟩
      have hb : Below w.heap.size w w1 := by rw [hw1]; exact ((Below.refl _ w).alloc (Nat.le_refl _) _).alloc (by simp) _
      have hsz : w1.heap.size = w.heap.size + 2 := by rw [hw1]; simp
      have k0 : w1.cell? ⟨w.heap.size, 0, none⟩ = some (PV ps) := by
        have : w1.heap[w.heap.size]? = some (.cells #[PV ps] 25 (0, 0)) := by rw [hw1, heap_alloc_old _ _ (by simp)]; exact heap_alloc_new w _
        rw [cell_of_block this]; rfl
      have k1 : w1.cell? ⟨w.heap.size + 1, 0, none⟩ = some (.int .u64 hh) := by
        have h0 : w1.heap[w.heap.size + 1]? = some (.cells #[.int .u64 hh] 43 (0, 0)) := by
          have := heap_alloc_new (w.alloc (.cells #[PV ps] 25)) (.cells #[.int .u64 hh] 43)
          rw [World.size_alloc] at this
          rw [hw1]; exact this
        rw [cell_of_block h0]; rfl
      have hst := words_stops (HG.out.2.2.1.below hb) HG.out.2.2.2.1 hh hl w.heap.size (w.heap.size + 1) ⟨by omega, k0⟩ ⟨by omega, k1⟩
      rw [HG.out.2.2.2.2.1] at hst
      have hco := collect_words (by omega) (enters_of Tryz.func140 (by kernel_rfl) rfl) hst
      have HC := Lib.hid (And.intro hco hb)
      clear hst hco hb hsz k0 k1 hw1
      go_wp2_with fail
      refine HC.out.1.mono ?_
      rintro e w2 ⟨v, rfl, hrow, hb2⟩
      have hru := rowU_of_owns hrow (by unfold wordsOf; simp)
      have hof := text_of hru HG.out.2.2.2.2.2
      have HO := Lib.hid (And.intro hof (HC.out.2.trans (hb2.mono HC.out.2.size)))
      clear hrow hb2 hru hof
      go_wp2_with fail
      refine HO.out.1.mono ?_
      rintro e w3 ⟨rfl, hb3⟩
      have HB := Lib.hid (HO.out.2.trans (hb3.mono HO.out.2.size))
      clear hb3
      go_wp2_with fail
      go_ret2
      obtain rfl := HG.out.2.1
      exact ⟨rfl, HB.out⟩
theorem cmpB_eq : ∀ (a b : List UInt8), cmpB a b = Lib.compareBytes a b
  | [], [] => rfl
  | [], _ :: _ => rfl
  | _ :: _, [] => rfl
  | a :: l, b :: m => by
    unfold cmpB Lib.compareBytes
    rw [cmpB_eq l m]
theorem strings_compare (a b : List UInt8) (w : World) :
    Calls Tryz.prog 101 #[SV a, SV b] w fun e w' => e = .returned (.int .i64 (cmpB a b)) ∧ w' = w := by
  have hc := Tryz.bytealg_CompareString ⟨a.toArray⟩ ⟨b.toArray⟩ w
  rw [cmpB_eq]
  have HC := Lib.hid hc
  clear hc
  go_enter Tryz.func101, Tryz.ntmps101
  go_wp2_with fail
  refine HC.out.mono ?_
  rintro e w1 ⟨rfl, rfl⟩
  go_wp2_with fail
  go_ret
  exact ⟨rfl, rfl⟩
theorem text_compare (a b : List UInt8) (w : World) :
    Calls Tryz.prog 66 #[SV a, SV b] w fun e w' => e = .returned (.int .i64 (cmpB a b)) ∧ w' = w := by
  have HC := Lib.hid (strings_compare a b w)
  go_enter Tryz.func66, Tryz.ntmps66
  go_wp2_with fail
  refine HC.out.mono ?_
  rintro e w1 ⟨rfl, rfl⟩
  go_wp2_with fail
  go_ret
  exact ⟨rfl, rfl⟩
end Go.Proofs.YtepdkbmnkjfcpaaGreatDoor
namespace Go.Proofs.YtepdkbmnkjfcpaaGreatDoor
open Go.RowKit Go.BigFrame Go.Maps Go.WideMaps Lf
def ndL (n : Nd) : List Nat := [n.key, n.val, n.left, n.right, n.mark, n.size]
def NPut (ps hh : Nat) (n : Nd) (Y : Nat → Prop) (w2 : World) (F : St) (k : Nat) (wr : World) : Prop := ∃ Sk, StOn wr ps Sk Y ∧ Inv Sk ∧ putWords Sk hh k ((ndL n).drop k) = F ∧ Keep Y w2 wr
theorem NPut.step {ps hh : Nat} {n : Nd} {Y : Nat → Prop} {w2 : World} {F : St} {k : Nat} {wr : World} (h : NPut ps hh n Y w2 F k wr) (hl : hh < 18446744073709551616) (x : Nat) (hx : x < 18446744073709551616) (hk : k < 6) (hxk : (ndL n)[k]? = some x) :
    Calls Tryz.prog 121 #[PV ps, .int .u64 hh, .int .i64 k, .int .u64 x] wr fun e w' => ∃ er : Int, e = .returned (.int .i64 er) ∧ NPut ps hh n Y w2 F (k + 1) w' := by
  obtain ⟨Sk, h1, h2, h3, h4⟩ := h
  refine (st_put h1 h2 hh k x hl (by omega) hx).mono ?_
  rintro e w' ⟨rfl, h5, h6⟩
  obtain ⟨hlt, hv⟩ := List.getElem?_eq_some_iff.1 hxk
  rw [List.drop_eq_getElem_cons hlt, hv] at h3
  exact ⟨_, rfl, _, h5, h2.put hh k x, h3, h4.trans h6⟩
end Go.Proofs.YtepdkbmnkjfcpaaGreatDoor
namespace Go.Proofs.YtepdkbmnkjfcpaaGreatDoor.Lf
def num (x : Nat) : Option Nat := match x / 4611686018427387904 with | 0 => some x | _ + 1 => none
def sizeM (S : St) (h : Nat) : Option Nat := num (sizeT S h)
def textM (S : St) (h : Nat) : Option (List UInt8) := if (getBlob S h).2 = 8 then none else some (getBlob S h).1
def downM (S : St) (k : List UInt8) : Nat → Nat → Nat → Option (Nat × Nat)
  | 0, _, below => some (0, below)
  | f + 1, root, below =>
    if root = 0 then some (0, below)
    else if (getNode S root).2 ≠ 0 then some (0, below)
    else match textM S (getNode S root).1.key with
      | none => none
      | some t =>
        if cmpB k t < 0 then downM S k f (getNode S root).1.left below
        else match sizeM S (getNode S root).1.left with
          | none => none
          | some z =>
            if 0 < cmpB k t then (match num (below + (z + 1)) with | none => none | some b => downM S k f (getNode S root).1.right b)
            else (match num (below + z) with | none => none | some b => some (root, b))
theorem downM_succ (S : St) (k : List UInt8) (f root below : Nat) : downM S k (f + 1) root below =
    if root = 0 then some (0, below)
    else if (getNode S root).2 ≠ 0 then some (0, below)
    else match textM S (getNode S root).1.key with
      | none => none
      | some t =>
        if cmpB k t < 0 then downM S k f (getNode S root).1.left below
        else match sizeM S (getNode S root).1.left with
          | none => none
          | some z =>
            if 0 < cmpB k t then (match num (below + (z + 1)) with | none => none | some b => downM S k f (getNode S root).1.right b)
            else (match num (below + z) with | none => none | some b => some (root, b)) := rfl
def atM (S : St) : Nat → Nat → Nat → Option (Nat × Nat)
  | 0, _, _ => some (0, 2)
  | f + 1, root, k =>
    if (getNode S root).2 ≠ 0 then some (0, 2)
    else match sizeM S (getNode S root).1.left with
      | none => none
      | some z =>
        if k < z then atM S f (getNode S root).1.left k
        else if z < k then atM S f (getNode S root).1.right (k - (z + 1))
        else some (root, 0)
theorem atM_succ (S : St) (f root k : Nat) : atM S (f + 1) root k =
    if (getNode S root).2 ≠ 0 then some (0, 2)
    else match sizeM S (getNode S root).1.left with
      | none => none
      | some z =>
        if k < z then atM S f (getNode S root).1.left k
        else if z < k then atM S f (getNode S root).1.right (k - (z + 1))
        else some (root, 0) := rfl
def walkAtM (S : St) (root k : Nat) : Option (Nat × Nat) :=
  match sizeM S root with
  | none => none
  | some z => if z ≤ k then some (0, 2) else atM S (limit S) root k
end Go.Proofs.YtepdkbmnkjfcpaaGreatDoor.Lf
namespace Go.Proofs.YtepdkbmnkjfcpaaGreatDoor.Qu
open Go Go.RowKit
section
variable {P : Program} {l : List Oper} {md : Region.Mode} {S : World → Prop} {Q : Exit → Act → World → Prop}
def seqB (md : Region.Mode) (ops : Array Oper) : List Nat → Array Bool → Bool
  | [], listed => (Region.ready md ops listed).isEmpty
  | i :: is, listed => decide (Region.ready md ops listed = [i]) && seqB md ops is (listed.setIfInBounds i true)
end
end Qu
open Qu
abbrev InK (I : World → Prop) : World → Prop := fun w' => ∃ x : Keeps I, w' = x.to
end Go.Proofs.YtepdkbmnkjfcpaaGreatDoor
namespace Go.Proofs.YtepdkbmnkjfcpaaGreatDoor
open Go.RowKit Go.BigFrame Go.Maps Go.WideMaps Lf
theorem st2_heap {W : World} {b : Nat} {u0 u1 : Value} {t : TypeId} {fr : Nat × Nat} (h : W.heap[b]? = some (.cells #[u0, u1] t fr)) (v0 v1 : Value) : ((W.setCell ⟨b, 0, none⟩ (v0)).setCell ⟨b, 1, none⟩ (v1)).heap[b]? = some (.cells #[v0, v1] t fr) := by
  rw [heap_setCell (heap_setCell h)]
  rfl
theorem st2_below {w W : World} {b : Nat} (h : Below w.heap.size w W) (hb : w.heap.size ≤ b) (v0 v1 : Value) : Below w.heap.size w ((W.setCell ⟨b, 0, none⟩ (v0)).setCell ⟨b, 1, none⟩ (v1)) :=
  (h.setCell (p := ⟨b, 0, none⟩) hb _).setCell (p := ⟨b, 1, none⟩) hb _
end Go.Proofs.YtepdkbmnkjfcpaaGreatDoor
namespace Go.Proofs.YtepdkbmnkjfcpaaGreatDoor.Qv
open Go Go.RowKit
section
variable {P : Program} {l : List Oper} {md : Region.Mode} {S : World → Prop} {Q : Exit → Act → World → Prop}
def wpMix (P : Program) (l : List Oper) (Q : Exit → Act → World → Prop) (S : World → Prop) : List (Bool × Nat) → Act → World → Prop
  | [], a, w => Q .normal a w
  | (true, i) :: is, a, w => ∃ o, l[i]? = some o ∧ ∃ v, YieldsIf P l.toArray S o v a ∧ wpMix P l Q S is (a.put o.dst v) w
  | (false, i) :: is, a, w => ∃ o, l[i]? = some o ∧ Region.wanted o (yielded l.toArray a.tmps) = true ∧ o.wp P a w (fun a' w' => S w' ∧ wpMix P l Q S is a' w') Q
def mixB (md : Region.Mode) (ops : Array Oper) : List (Bool × Nat) → Array Bool → Bool
  | [], listed => (Region.ready md ops listed).isEmpty
  | (true, i) :: is, listed => (Region.ready md ops listed).contains i && Region.free md ops listed i && mixB md ops is (listed.setIfInBounds i true)
  | (false, i) :: is, listed => decide (Region.ready md ops listed = [i]) && mixB md ops is (listed.setIfInBounds i true)
theorem wpAnyH_mix (hsel : Region.noSelect l.toArray = true) (hQ : ∀ d v c a w, Q (.panic c) (Act.put a d v) w → Q (.panic c) a w) :
    ∀ (is : List (Bool × Nat)) (listed : Array Bool) (a : Act) (w : World), mixB md l.toArray is listed = true → S w → wpMix P l Q S is a w → wpAnyH P md l.toArray Q S is.length listed a w
  | [], _, _, _, hB, _, h => ⟨by simpa [mixB] using hB, h⟩
  | (true, i) :: is, listed, a, w, hB, hS, h => by
    simp only [mixB, Bool.and_eq_true] at hB
    obtain ⟨⟨hr, hf⟩, hB'⟩ := hB
    obtain ⟨o, h0, v, hy, hK⟩ := h
    have h0' : l.toArray[i]? = some o := by simpa using h0
    exact wpAnyH_take h0' hsel hf hr (fun c a w => hQ _ _ c a w) hy hS (wpAnyH_mix hsel hQ is _ _ _ hB' hS hK)
  | (false, j) :: is, listed, a, w, hB, hS, h => by
    simp only [mixB, Bool.and_eq_true, decide_eq_true_eq] at hB
    refine ⟨fun h1 => (by rw [hB.1] at h1; cases h1), fun i hi => ?_⟩
    rw [hB.1] at hi
    have hik : i = j := by simpa using hi
    subst hik
    have hrec := fun a' w' (hs : S w') (hq : wpMix P l Q S is a' w') => wpAnyH_mix hsel hQ is (listed.setIfInBounds i true) a' w' hB.2 hs hq
    obtain ⟨o, h0, hw, hh⟩ := h
    have h0' : l.toArray[i]? = some o := by simpa using h0
    unfold wpOp
    simp only [h0', hw, if_true]
    exact .inl (Oper.wp_mono (fun a' w' h' => ⟨h'.1, hrec a' w' h'.1 h'.2⟩) hh)
def lexMixB (md : Region.Mode) (ops : Array Oper) (is : List (Bool × Nat)) : Bool :=
  Region.noSelect ops && decide (is.length = ops.size) && mixB md ops is (Array.replicate ops.size false)
end
end Qv
open Qv
theorem wp_region_mix {P : Program} {id : Nat} {Q : Exit → Act → World → Prop} {a : Act} {w : World} {l : List Oper} (I : World → Prop) (is : List (Bool × Nat)) (hm : P.follows .mixedOrders = true) (hB : lexMixB .any l.toArray is = true)
    (hI : I w.drew) (h : wpMix P l (NoPanic Q) (InK I) is a w.drew) : (Code.region id l.toArray true).wp P Q a w := by
  simp only [lexMixB, Bool.and_eq_true, decide_eq_true_eq] at hB
  obtain ⟨⟨hsel, hn⟩, hlex⟩ := hB
  have hS : InK I w.drew := ⟨⟨_, hI⟩, rfl⟩
  refine wp_region_noPanic (wp_region_held_drew (S := InK I) hm hS (fun _ => ?_))
  have := wpAnyH_mix (md := .any) (Q := NoPanic Q) hsel (fun _ _ _ _ _ h => (h : False).elim) is _ a w.drew hlex hS h
  rw [hn] at this
  exact this
theorem mix_take {P : Program} {l : List Oper} {I : World → Prop} {Q : Exit → Act → World → Prop} {i : Nat} {is : List (Bool × Nat)} {a : Act} {w : World} (o : Oper) (ho : l[i]? = some o) (v : Value) (hw : Region.wanted o (yielded l.toArray a.tmps) = true) (hr : ∀ w, InK I w → (execOp a.eval o).run P w = .ok (.value v) w)
    (h : wpMix P l Q (InK I) is (a.put o.dst v) w) : wpMix P l Q (InK I) ((true, i) :: is) a w := ⟨o, ho, v, Or.inl ⟨hw, hr⟩, h⟩
theorem mix_do {P : Program} {l : List Oper} {Q : Exit → Act → World → Prop} {I : World → Prop} {i : Nat} {is : List (Bool × Nat)} {a : Act} {w : World} (o : Oper) (ho : l[i]? = some o) (hw : Region.wanted o (yielded l.toArray a.tmps) = true)
    (h : ∀ K' : Act → World → Prop, Shut (∀ a w, I w → wpMix P l Q (InK I) is a w → K' a w) → Oper.wp P o a w K' Q) : wpMix P l Q (InK I) ((false, i) :: is) a w :=
  ⟨o, ho, hw, h _ (fun _ _ hI hs => ⟨⟨⟨_, hI⟩, rfl⟩, hs⟩)⟩
theorem mix_nil {P : Program} {l : List Oper} {Q : Exit → Act → World → Prop} {S : World → Prop} {a : Act} {w : World} (h : Q .normal a w) : wpMix P l (NoPanic Q) S [] a w := h
end Go.Proofs.YtepdkbmnkjfcpaaGreatDoor
namespace Go.Proofs.YtepdkbmnkjfcpaaGreatDoor
open Go.RowKit Go.BigFrame Go.Maps Go.WideMaps Lf
theorem st2_other {W : World} {b c : Nat} (h : c ≠ b) (v0 v1 : Value) : ((W.setCell ⟨b, 0, none⟩ (v0)).setCell ⟨b, 1, none⟩ (v1)).heap[c]? = W.heap[c]? := by rw [heap_setCell_ne h, heap_setCell_ne h]
def binV (ps kind : Nat) : Value := .agg #[PV ps, .int .i64 kind]
def itV (k v : Nat) : Value := .agg #[.int .u64 k, .int .u64 v]
end Go.Proofs.YtepdkbmnkjfcpaaGreatDoor
namespace Go.Proofs.YtepdkbmnkjfcpaaGreatDoor
open Go.RowKit Go.BigFrame Go.Maps Go.WideMaps Lf
theorem StOn.write {w w' : World} {ps : Nat} {S : St} {Y : Nat → Prop} {b : Nat} {cs : Array Value} {t : TypeId} {fr : Nat × Nat} (h : StOn w ps S Y) (hy : Y b) (hb : w.heap[b]? = some (.cells cs t fr)) (ht : t ≠ 99 ∧ t ≠ 160) (hz : cs.size < 64)
    (hs : w.heap.size ≤ w'.heap.size) (hw : ∀ k, k < w.heap.size → k ≠ b → w'.heap[k]? = w.heap[k]?) : StOn w' ps S Y := by
  obtain ⟨pa, pm, ph, pt, v, h⟩ := h
  refine ⟨pa, pm, ph, pt, v, h.of_keep hs fun k hk hc => hw k hk ?_⟩
  rintro rfl
  rcases hc with hc | rfl | rfl | rfl
  · exact hc hy
  · have := h.hd
    rw [hb] at this
    injection this with this
    injection this with _ this
    exact ht.1 this
  · have := h.heap.hp
    rw [hb] at this
    injection this with this
    injection this with _ this
    exact ht.2 this
  · have := h.heap.tab 63 (by decide)
    rw [cell_of_block hb, Array.getElem?_eq_none (by omega)] at this
    cases this
end Go.Proofs.YtepdkbmnkjfcpaaGreatDoor
namespace Go.Proofs.YtepdkbmnkjfcpaaGreatDoor
open Go.RowKit Go.BigFrame Go.Maps Go.WideMaps Lf
def TreeOn (w : World) (px ps kind root : Nat) : Prop := w.heap[px]? = some (.cells #[PV ps, .int .i64 kind, .int .i64 0, .iface 125 (binV ps kind), .int .u64 root] 45)
theorem TreeOn.below {w w' : World} {px ps kind root : Nat} (h : TreeOn w px ps kind root) (hb : Below w.heap.size w w') : TreeOn w' px ps kind root := (hb.block px (Array.getElem?_eq_some_iff.1 h).1).trans h
theorem TreeOn.keep {w w' : World} {px ps kind root : Nat} {Y : Nat → Prop} (h : TreeOn w px ps kind root) (hk : Keep Y w w') (hy : Y px) : TreeOn w' px ps kind root := (hk.block px hy).trans h
end Go.Proofs.YtepdkbmnkjfcpaaGreatDoor
namespace Go.Proofs.YtepdkbmnkjfcpaaGreatDoor.Qw
open Go Go.RowKit
inductive Plan where
  | nil
  | take (i : Nat) (p : Plan)
  | go (i : Nat) (p : Plan)
  | two (i j : Nat) (p q : Plan)
def Plan.len : Plan → Nat
  | .nil => 0
  | .take _ p => p.len + 1
  | .go _ p => p.len + 1
  | .two _ _ p _ => p.len + 1
section
variable {P : Program} {l : List Oper} {md : Region.Mode} {S : World → Prop} {Q : Exit → Act → World → Prop}
def wpPlan (P : Program) (l : List Oper) (Q : Exit → Act → World → Prop) (S : World → Prop) : Plan → Act → World → Prop
  | .nil, a, w => Q .normal a w
  | .take i p, a, w => ∃ o, l[i]? = some o ∧ ∃ v, YieldsIf P l.toArray S o v a ∧ wpPlan P l Q S p (a.put o.dst v) w
  | .go i p, a, w => ∃ o, l[i]? = some o ∧ Region.wanted o (yielded l.toArray a.tmps) = true ∧ o.wp P a w (fun a' w' => S w' ∧ wpPlan P l Q S p a' w') Q
  | .two i j p q, a, w => (∃ o, l[i]? = some o ∧ Region.wanted o (yielded l.toArray a.tmps) = true ∧ o.wp P a w (fun a' w' => S w' ∧ wpPlan P l Q S p a' w') Q) ∧
      (∃ o, l[j]? = some o ∧ Region.wanted o (yielded l.toArray a.tmps) = true ∧ o.wp P a w (fun a' w' => S w' ∧ wpPlan P l Q S q a' w') Q)
def planB (md : Region.Mode) (ops : Array Oper) : Plan → Array Bool → Bool
  | .nil, listed => (Region.ready md ops listed).isEmpty
  | .take i p, listed => (Region.ready md ops listed).contains i && Region.free md ops listed i && planB md ops p (listed.setIfInBounds i true)
  | .go i p, listed => decide (Region.ready md ops listed = [i]) && planB md ops p (listed.setIfInBounds i true)
  | .two i j p q, listed => decide (Region.ready md ops listed = [i, j]) && decide (p.len = q.len) && planB md ops p (listed.setIfInBounds i true) && planB md ops q (listed.setIfInBounds j true)
theorem wpAnyH_plan (hsel : Region.noSelect l.toArray = true) (hQ : ∀ d v c a w, Q (.panic c) (Act.put a d v) w → Q (.panic c) a w) :
    ∀ (p : Plan) (listed : Array Bool) (a : Act) (w : World), planB md l.toArray p listed = true → S w → wpPlan P l Q S p a w → wpAnyH P md l.toArray Q S p.len listed a w
  | .nil, _, _, _, hB, _, h => ⟨by simpa [planB] using hB, h⟩
  | .take i p, listed, a, w, hB, hS, h => by
    simp only [planB, Bool.and_eq_true] at hB
    obtain ⟨⟨hr, hf⟩, hB'⟩ := hB
    obtain ⟨o, h0, v, hy, hK⟩ := h
    have h0' : l.toArray[i]? = some o := by simpa using h0
    exact wpAnyH_take h0' hsel hf hr (fun c a w => hQ _ _ c a w) hy hS (wpAnyH_plan hsel hQ p _ _ _ hB' hS hK)
  | .go j p, listed, a, w, hB, hS, h => by
    simp only [planB, Bool.and_eq_true, decide_eq_true_eq] at hB
    refine ⟨fun h1 => (by rw [hB.1] at h1; cases h1), fun i hi => ?_⟩
    rw [hB.1] at hi
    have hik : i = j := by simpa using hi
    subst hik
    have hrec := fun a' w' (hs : S w') (hq : wpPlan P l Q S p a' w') => wpAnyH_plan hsel hQ p (listed.setIfInBounds i true) a' w' hB.2 hs hq
    obtain ⟨o, h0, hw, hh⟩ := h
    have h0' : l.toArray[i]? = some o := by simpa using h0
    unfold wpOp
    simp only [h0', hw, if_true]
    exact .inl (Oper.wp_mono (fun a' w' h' => ⟨h'.1, hrec a' w' h'.1 h'.2⟩) hh)
  | .two i j p q, listed, a, w, hB, hS, h => by
    simp only [planB, Bool.and_eq_true, decide_eq_true_eq] at hB
    obtain ⟨⟨⟨hr, hlen⟩, hp⟩, hq⟩ := hB
    refine ⟨fun h1 => (by rw [hr] at h1; cases h1), fun k hk => ?_⟩
    rw [hr] at hk
    have hk' : k = i ∨ k = j := by simpa using hk
    rcases hk' with rfl | rfl
    · have hrec := fun a' w' (hs : S w') (hq' : wpPlan P l Q S p a' w') => wpAnyH_plan hsel hQ p (listed.setIfInBounds k true) a' w' hp hs hq'
      obtain ⟨o, h0, hw, hh⟩ := h.1
      have h0' : l.toArray[k]? = some o := by simpa using h0
      unfold wpOp
      simp only [h0', hw, if_true]
      exact .inl (Oper.wp_mono (fun a' w' h' => ⟨h'.1, hrec a' w' h'.1 h'.2⟩) hh)
    · have hrec := fun a' w' (hs : S w') (hq' : wpPlan P l Q S q a' w') => wpAnyH_plan hsel hQ q (listed.setIfInBounds k true) a' w' hq hs hq'
      rw [← hlen] at hrec
      obtain ⟨o, h0, hw, hh⟩ := h.2
      have h0' : l.toArray[k]? = some o := by simpa using h0
      unfold wpOp
      simp only [h0', hw, if_true]
      exact .inl (Oper.wp_mono (fun a' w' h' => ⟨h'.1, hrec a' w' h'.1 h'.2⟩) hh)
def lexPlanB (md : Region.Mode) (ops : Array Oper) (p : Plan) : Bool :=
  Region.noSelect ops && decide (p.len = ops.size) && planB md ops p (Array.replicate ops.size false)
end
end Qw
open Qw
theorem wp_region_plan {P : Program} {id : Nat} {Q : Exit → Act → World → Prop} {a : Act} {w : World} {l : List Oper} (I : World → Prop) (p : Plan) (hm : P.follows .mixedOrders = true) (hB : lexPlanB .any l.toArray p = true)
    (hI : I w.drew) (h : wpPlan P l (NoPanic Q) (InK I) p a w.drew) : (Code.region id l.toArray true).wp P Q a w := by
  simp only [lexPlanB, Bool.and_eq_true, decide_eq_true_eq] at hB
  obtain ⟨⟨hsel, hn⟩, hlex⟩ := hB
  have hS : InK I w.drew := ⟨⟨_, hI⟩, rfl⟩
  refine wp_region_noPanic (wp_region_held_drew (S := InK I) hm hS (fun _ => ?_))
  have := wpAnyH_plan (md := .any) (Q := NoPanic Q) hsel (fun _ _ _ _ _ h => (h : False).elim) p _ a w.drew hlex hS h
  rw [hn] at this
  exact this
theorem plan_take {P : Program} {l : List Oper} {I : World → Prop} {Q : Exit → Act → World → Prop} {i : Nat} {p : Plan} {a : Act} {w : World} (o : Oper) (ho : l[i]? = some o) (v : Value) (hw : Region.wanted o (yielded l.toArray a.tmps) = true) (hr : ∀ w, InK I w → (execOp a.eval o).run P w = .ok (.value v) w)
    (h : wpPlan P l Q (InK I) p (a.put o.dst v) w) : wpPlan P l Q (InK I) (.take i p) a w := ⟨o, ho, v, Or.inl ⟨hw, hr⟩, h⟩
theorem plan_do {P : Program} {l : List Oper} {Q : Exit → Act → World → Prop} {I : World → Prop} {i : Nat} {p : Plan} {a : Act} {w : World} (o : Oper) (ho : l[i]? = some o) (hw : Region.wanted o (yielded l.toArray a.tmps) = true)
    (h : ∀ K' : Act → World → Prop, Shut (∀ a w, I w → wpPlan P l Q (InK I) p a w → K' a w) → Oper.wp P o a w K' Q) : wpPlan P l Q (InK I) (.go i p) a w :=
  ⟨o, ho, hw, h _ (fun _ _ hI hs => ⟨⟨⟨_, hI⟩, rfl⟩, hs⟩)⟩
theorem plan_two {P : Program} {l : List Oper} {Q : Exit → Act → World → Prop} {I : World → Prop} {i j : Nat} {p q : Plan} {a : Act} {w : World} (h1 : wpPlan P l Q (InK I) (.go i p) a w) (h2 : wpPlan P l Q (InK I) (.go j q) a w) : wpPlan P l Q (InK I) (.two i j p q) a w := ⟨h1, h2⟩
theorem plan_nil {P : Program} {l : List Oper} {Q : Exit → Act → World → Prop} {S : World → Prop} {a : Act} {w : World} (h : Q .normal a w) : wpPlan P l (NoPanic Q) S .nil a w := h
end Go.Proofs.YtepdkbmnkjfcpaaGreatDoor
