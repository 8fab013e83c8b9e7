import Derived.Test.YtcibkdbpicledaaGreatDoorWai
import Derived.Maps.OwnIn
import Derived.Laws.BytesString
set_option maxRecDepth 100000
set_option maxHeartbeats 3200000
namespace Go.Proofs.YtcibkdbpicledaaGreatDoor
open Go.RowKit Go.BigFrame Go.Maps Go.WideMaps Lf
open Go.Shelf
attribute [local go_sem] Oper.semAt_some
abbrev U64 := { x : Nat // x < 18446744073709551616 }
def encU (x : U64) : Array Value := #[.int .u64 (x.1 : Nat)]
def valsU (l : List U64) : List Nat := l.map (·.1)
theorem get_lt {w : World} {ps : Nat} {S : St} {Y : Nat → Prop} (h : StOn w ps S Y) (hh k : Nat) : (S.get hh k).1 < 18446744073709551616 := by
 obtain ⟨pa, pm, ph, pt, v, h⟩ := h
 rw [St.get_place]
 rcases S.place_cases hh k with ⟨p, hp⟩ | ⟨e, hp⟩
 · rw [hp]; exact h.heap.rd_lt p
 · rw [hp]; show 0 < _; omega
theorem blob_words (ps hh : Nat) (w : World) :
 Calls Tryz.prog 105 #[PV ps, .int .u64 hh] w fun e w' => e = .returned (.func (.func 134) #[] #[PV w.heap.size, PV (w.heap.size + 1)]) ∧ w' = (w.alloc (.cells #[PV ps] 25)).alloc (.cells #[.int .u64 hh] 83) := by
 go_enter Tryz.func105, Tryz.ntmps105
 go_wp2
 go_ret
 exact ⟨rfl, rfl⟩
theorem words_stops {w : World} {ps : Nat} {S : St} {Y : Nat → Prop} (h : StOn w ps S Y) (hi : Inv S) (hh : Nat) (hl : hh < 18446744073709551616) (Bs Bh : Nat) (hBs : Bs < w.heap.size ∧ w.cell? ⟨Bs, 0, none⟩ = some (PV ps)) (hBh : Bh < w.heap.size ∧ w.cell? ⟨Bh, 0, none⟩ = some (.int .u64 hh)) :
 SeqStopsK Fence.wide 6 Tryz.prog 134 #[PV Bs, PV Bh] encU (Below w.heap.size) (fun xs => valsU xs = recWords S hh) (fun _ => True) 3998 w := fun l J Jx W hW hJ hJx hY h0 => by
 have hfL : Fence.wide.fn 85 := trivial
 have hfG : Fence.wide.fn 96 := trivial
 have hlen : CallsIn Fence.wide 5 Tryz.prog 85 #[PV ps, .int .u64 hh] W _ := callsIn_wide.2 (st_len (h.below hW) hi hh hl)
 have hget : ∀ W', Below w.heap.size w W' → ∀ k : Nat, k ≤ 4000 → CallsIn Fence.wide 5 Tryz.prog 96 #[PV ps, .int .u64 hh, .int .i64 k] W' _ := fun W' hW' k hk => callsIn_wide.2 (st_get (h.below hW') hi hh k hl (by omega))
 have hglt := fun k => get_lt h hh k
 have hn : (S.len hh).1 ≤ 3998 := hi.at_le hh
 obtain ⟨q, hq⟩ : ∃ q, recWords S hh = q := ⟨_, rfl⟩
 have hq1 : ∀ k, q.take (k + 1) = if k < (S.len hh).1 then q.take k ++ [(S.get hh k).1] else q.take k := fun k => by
  rw [← hq]
  unfold recWords
  split
  · rename_i hk
    rw [← List.map_take, ← List.map_take, List.take_range, List.take_range, Nat.min_eq_left (by omega), Nat.min_eq_left (by omega), List.range_succ, List.map_append]
    rfl
  · rename_i hk
    rw [List.take_of_length_le (by simp; omega), List.take_of_length_le (by simp; omega)]
 have hql : q.length = (S.len hh).1 := by rw [← hq]; simp [recWords]
 rw [hq]
 obtain ⟨n, hnn⟩ : ∃ n, (S.len hh).1 = n := ⟨_, rfl⟩
 rw [hnn] at hlen hn hq1 hql
 have cs := (hW.cell (p := ⟨Bs, 0, none⟩) hBs.1).trans hBs.2
 have ch := (hW.cell (p := ⟨Bh, 0, none⟩) hBh.1).trans hBh.2
 have HG := kq7 hget hglt hq1 hql hBs hBh hW
 have HJ := kq4 hJ hJx hY h0
 have HL := Lib.hid hlen
 clear hget hglt hq hq1 hql hBs hBh hW hJ hJx hY h0 hlen hnn hi h
 refine callsIn_of_wp Tryz.func134 rfl trivial ?_ rfl
 simp only [Tryz.ntmps134, List.size_toArray, List.length_cons, List.length_nil, Nat.reduceAdd, Nat.reduceSub, Array.replicate_succ, Array.replicate_zero, List.push_toArray, List.append_toArray, List.nil_append, List.cons_append]
 gi_wp2_with fail
 refine HL.out.mono ?_
 rintro e w1 ⟨rfl, rfl⟩
 clear HL
 gi_wp2_with fail
 gi_loopw [6, 7, 8, 16] (fun _ _ _ i wr => ∃ k : Nat, k ≤ n ∧ i = .int .i64 k ∧ Hid (Below w.heap.size w wr ∧ ∃ pX, valsU pX = q.take k ∧ J pX wr)) (fun _ _ _ i _ => n - (intOf i).toNat)
 case atStart => exact ⟨0, by omega, rfl, HG.out.2.2.2.2.2.2, [], rfl, HJ.out.2.2.2⟩
 case round =>
  obtain ⟨k, hk, rfl, hin⟩ := hrel
  by_cases hlt : k < n
  · have hlt' : (k : Int) < n := by omega
    have cs := (hin.out.1.cell (p := ⟨Bs, 0, none⟩) HG.out.2.2.2.2.1.1).trans HG.out.2.2.2.2.1.2
    have ch := (hin.out.1.cell (p := ⟨Bh, 0, none⟩) HG.out.2.2.2.2.2.1.1).trans HG.out.2.2.2.2.2.1.2
    have hge := HG.out.1 wr hin.out.1 k (by omega)
    obtain ⟨pX, hpX, hJX⟩ := hin.out.2
    have hpl : pX.length = k := by
     have := congrArg List.length hpX
     simp only [valsU, List.length_map, List.length_take] at this
     rw [HG.out.2.2.2.1] at this
     omega
    obtain ⟨xX, hxX⟩ : ∃ xX : U64, (S.get hh k).1 = xX.1 := ⟨⟨_, HG.out.2.1 k⟩, rfl⟩
    obtain ⟨fn, tmps, assign, body, hy, hRd⟩ := HJ.out.2.2.1 pX xX wr hJX (by omega)
    have hv : valsU (pX ++ [xX]) = q.take (k + 1) := by
     rw [HG.out.2.2.1 k, if_pos hlt, ← hpX, hxX]
     simp [valsU]
    dsimp only [encU] at hy
    rw [hxX] at hge
    generalize (S.get hh k).2 = er at hge
    obtain ⟨x, hx⟩ := xX
    simp only at hge hy
    clear hxX
    have HV := Lib.hid hv
    have HE := Lib.hid hge
    clear hv hge hpX hJX hpl
    gi_wp2_with fail
    refine HE.out.mono ?_
    rintro e w2 ⟨rfl, rfl⟩
    clear HE
    gi_wp2_with fail
    refine hRd.mono ?_
    rintro e w4 (⟨rfl, hJ4, hk4'⟩ | ⟨rfl, hJx4⟩)
    · have H4 := kq2 (hin.out.1.trans hk4') hJ4
      clear hJ4 hk4' hy hRd
      gi_wp2_with fail
      go_roundw
      case rel => exact ⟨k + 1, by omega, by simp, H4.out.1, _, HV.out, H4.out.2⟩
      case measure => simp [intOf]; omega
    · have H4 := Lib.hid hJx4
      clear hJx4 hy hRd
      gi_wp2_with fail
      refine bodyPost_ret (results_none rfl _ _ _) rfl ?_
      exact ⟨⟨_, rfl⟩, .inr ⟨_, trivial, H4.out⟩⟩
  · obtain rfl : k = n := by omega
    gi_wp2
    go_end0
    obtain ⟨pX, hpX, hJX⟩ := hin.out.2
    rw [List.take_of_length_le (by rw [HG.out.2.2.2.1]; exact Nat.le_refl _)] at hpX
    exact ⟨⟨_, rfl⟩, .inl ⟨_, hpX, hJX⟩⟩
attribute [local go_sem] Oper.semAt_some
theorem keepsFrom_of_row {W W' : World} {base B : Nat} {e : TypeId} {size : Nat} {v : Value} {k : Nat} {xs : List Value} (h : W.ownsRow base e size v k xs) (hg : W.grownBy W' v.ownBlock) : KeepsFrom B W W' :=
 ⟨hg.size, fun j o _ hj ho => (hg.block j (gl hj) (fun e' => by
  rcases h.2 with ⟨rfl, _⟩ | ⟨g, cap, cur, rfl, _, hgb, _⟩
  · cases e'
  · have : j = g := by simpa [Value.ownBlock] using e'
    subst this
    rw [hgb] at hj
    injection hj with hj
    subst hj
    cases ho)).trans hj⟩
theorem below_put {n : Nat} (W : World) (l : Nat) (o o' : Obj) (hl : n ≤ l) (_ : W.heap[l]? = some o) (_ : o.isCells = false) (_ : o.isWalk = false) : Below n W (W.putObj l o') :=
 ⟨rfl, rfl, rfl, by simp, fun k hk => World.putObj_heap_other (by omega)⟩
theorem ownsRow_own {W W' : World} {row : Option Nat} {base : Nat} {e : TypeId} {size : Nat} {v : Value} {k : Nat} {xs : List Value} (h : W.ownsRow base e size v k xs) (hg : W.grownBy W' row) (hr : ∀ r, row = some r → ∃ o : Obj, W.heap[r]? = some o ∧ o.isCells = false) : W'.ownsRow base e size v k xs := by
 refine h.kept hg ?_
 rcases h.2 with ⟨rfl, _⟩ | ⟨g, cap, cur, rfl, _, hgb, _⟩
 · exact Or.inl rfl
 · refine Or.inr fun e' => ?_
   obtain ⟨o, ho, hc⟩ := hr g (by rw [← e']; rfl)
   rw [hgb] at ho
   injection ho with ho
   subst ho
   cases hc
theorem heap_box {W : World} {B : Nat} {v : Value} {t : TypeId} (h : W.heap[B]? = some (.cells #[v] t (0, 0))) : W.cell? ⟨B, 0, none⟩ = some v ∧ W.frozen? ⟨B, 0, none⟩ = false := ⟨by rw [cell_of_block h]; rfl, frozen_of_block h⟩
def uV (q : List Nat) : List Value := q.map fun x : Nat => Value.int .u64 x
theorem append_seq {w : World} {g : Nat} {lb : Array Value} {q : List Nat} {N : Nat} (hN : N ≤ 100000) (eg : ∀ args w, (callFunc g args).run Tryz.prog w = .ok (.enter g args) w)
 (hseq : SeqStopsK Fence.wide 6 Tryz.prog g lb encU (Below w.heap.size) (fun xs => valsU xs = q) (fun _ => True) N w) :
 CallsIn Fence.wide 7 Tryz.prog 133 #[.slice none 0 0, .func (.func g) #[] lb] w fun e w' => ∃ v, e = .returned v ∧ w'.ownsRow w.heap.size 82 1 v q.length (uV q) ∧ Below w.heap.size w w' := by
 have h1 : 1 ≤ 7 := by omega
 obtain ⟨i0, hi, hz0, hz1, hz2⟩ := info_parts infoU64
 refine callsIn_of_wp_marks Tryz.func133 rfl trivial ?_ rfl
 simp only [Tryz.ntmps133, List.size_toArray, List.length_cons, List.length_nil, Nat.reduceAdd, Nat.reduceSub, Array.replicate_succ, Array.replicate_zero, List.push_toArray, List.append_toArray, List.nil_append, List.cons_append]
 gi_wp2_with fail
 have k0 : (w.alloc (.cells #[.slice none 0 0] 162)).heap[w.heap.size]? = some (.cells #[.slice none 0 0] 162 (0, 0)) := heap_alloc_new w _
 have hb0 : Below w.heap.size w (w.alloc (.cells #[.slice none 0 0] 162)) := (Below.refl _ w).alloc (Nat.le_refl _) _
 have hsz : (w.alloc (.cells #[.slice none 0 0] 162)).heap.size = w.heap.size + 1 := by simp
 generalize w.alloc (.cells #[.slice none 0 0] 162) = W0 at *
 refine wpIn_rangeFunc_ownH rfl h1 (gf := g) (lb := lb) rfl trivial eg hseq (fun h k => h.trans k) (fun W l o o' h1 h2 h3 h4 => below_put W l o o' (by omega) h2 h3 h4) hb0 (fun _ => rfl)
  (fun pre W => (∃ v, W.heap[w.heap.size]? = some (.cells #[v] 162 (0, 0)) ∧ W.ownsRow w.heap.size 82 1 v pre.length (uV (valsU pre))) ∧ Below w.heap.size w W)
  (fun _ _ _ => False)
  (OwnFrom.and (Own.from (fun s A B row hs hg hr => by
   obtain ⟨v, hv, hrow⟩ := hs
   refine ⟨v, (hg.block _ (gl hv) (fun e => ?_)).trans hv, ownsRow_own hrow hg hr⟩
   obtain ⟨o, ho, hc⟩ := hr _ e.symm
   rw [hv] at ho
   injection ho with ho
   subst ho
   cases hc) _) (ownFrom_below (Nat.le_refl _) (by omega)))
  (fun cd => Own.from (fun s A B row hs hg hr => hs) _)
  ⟨⟨_, k0, rfl, Or.inl ⟨rfl, rfl⟩⟩, hb0⟩
  (fun x a' _ => a' = { tmps := #[.slice none 0 0, .func (.func g) #[] lb, PV w.heap.size, undef, .slice none 0 0, .int .u64 (x.1 : Nat), .func (.func g) #[] lb, .int .u64 (x.1 : Nat), undef, undef, undef, undef, undef], defers := [] })
  (fun x a' _ X W' row hs hg hr => hs)
  ?assign ?body ?done ?stop
 case assign =>
  rintro l pre ⟨x, hx⟩ W K hI hK
  have HK := Lib.hid hK
  have HI := Lib.hid hI
  clear hK hI
  simp only [encU]
  gi_wp2
  exact HK.out _ _ (KeepsFrom.refl _ _) (Below.refl _ _) HI.out rfl
 case body =>
  rintro l pre ⟨x, hx⟩ a' W hl _ ⟨⟨v, hv, hrow⟩, hB⟩ rfl hlt
  obtain ⟨c1, f1⟩ := heap_box hv
  have HI := kq6 hv hrow hB hlt hsz hl
  obtain ⟨m, hm⟩ : ∃ m, pre.length = m := ⟨_, rfl⟩
  have hmN : m ≤ 100000 := by omega
  rw [hm] at HI
  clear hv hrow hB hlt hm
  gi_wp2_with (gi_at_builtin; refine wpListIn_append_own_at _ rfl _ _ 162 rfl w.heap.size 82 i0 (.int .u64 0) 1 8 Tryz.underlying162 hi hz0 hz1 hz2 rfl (by decide) _ _ _ rfl (HI.out.2.1.alloc _) ⟨W.heap.size, 0, none⟩ 1 1 [.int .u64 x] rfl rfl (cell_one_new _ _ _) ?c2 ?c3 ?c4 ?c5 ?_)
  case c2 => simp [Value.oneCell']
  case c3 => unfold maxLen; omega
  case c4 => omega
  case c5 => have := HI.out.2.2.1.size; simp; omega
  intro v' w1 hown hgrow _ hat
  obtain ⟨g', cap', cur', rfl, hbase', hgb', hr1, hr2, hr3, hr4⟩ := hown.2.resolve_left (by rintro ⟨_, h⟩; exact absurd h (by simp))
  obtain ⟨hv, hrow, hB, hlt, hsz, hl⟩ := HI.out
  have hBW := hB.size
  have hbl := (gl hv)
  have hne : v.ownBlock ≠ some w.heap.size := fun e' => by
   rcases hrow.2 with ⟨rfl, _⟩ | ⟨g0, cap, cur, rfl, _, hgb, _⟩
   · cases e'
   · have : g0 = w.heap.size := by simpa [Value.ownBlock] using e'
     subst this
     rw [hgb] at hv
     injection hv with hv
     injection hv with _ hv
     exact absurd hv (by decide)
  have hv1 : w1.heap[w.heap.size]? = some (.cells #[v] 162 (0, 0)) := by
   rw [hgrow.block _ (by simp; omega) (fun e => hne e.symm), heap_alloc_old W _ hbl]
   exact hv
  have hg' : g' ≠ w.heap.size := fun e => by
   subst e
   rw [hgb'] at hv1
   injection hv1 with hv1
   injection hv1 with _ hv1
   exact absurd hv1 (by decide)
  have hbA : Below w.heap.size W w1 := ((Below.refl _ W).mono hBW |>.alloc hBW (.cells #[.int .u64 x] 82)).grown hgrow (by simp; omega) (fun k e => (hrow.lt k e).1)
  have hk1 : KeepsFrom W0.heap.size W w1 := ((KeepsOthers.alloc W (.cells #[.int .u64 x] 82)).from _).trans (keepsFrom_of_row (hrow.alloc _) hgrow)
  obtain ⟨d1, e1⟩ := heap_box hv1
  have HW := kq11 hv1 hgb' hg' hbA hk1 hown hbase' hr1 hr2 hr3 hr4
  clear hv1 hgb' hg' hbA hk1 hown hbase' hr1 hr2 hr3 hr4 hgrow hat hne hbl hBW hv hrow hB hlt hl
  gi_wp2_with fail
  have hbB := HW.out.2.2.2.1.setCell (p := ⟨w.heap.size, 0, none⟩) (Nat.le_refl w.heap.size) (.slice (some ⟨g', 0, none⟩) (m + 1) cap')
  refine ⟨HW.out.2.2.2.2.1.trans ((KeepsOthers.setCell _ _ _).from _), hbB, ⟨_, heap_setCell HW.out.1, ?_⟩, HI.out.2.2.1.trans hbB⟩
  have hl1 : (pre ++ [(⟨x, hx⟩ : U64)]).length = m + 1 := by have := HW.out.2.2.2.2.2.1.1; simp [uV, valsU] at this ⊢; omega
  have hl2 : uV (valsU (pre ++ [(⟨x, hx⟩ : U64)])) = uV (valsU pre) ++ [.int .u64 x] := by simp [uV, valsU]
  rw [hl1, hl2]
  exact ⟨HW.out.2.2.2.2.2.1.1, Or.inr ⟨g', cap', cur', rfl, HW.out.2.2.2.2.2.2.1, (heap_setCell_ne HW.out.2.2.1).trans HW.out.2.1, HW.out.2.2.2.2.2.2.2⟩⟩
 case done =>
  rintro D ys W hD hS ⟨⟨v, hv, hrow⟩, hB⟩ hK
  obtain ⟨c1, f1⟩ := heap_box hv
  have hvl : ys.length = q.length := by rw [← hS]; simp [valsU]
  rw [hS, hvl] at hrow
  have HI := kq5 hrow hB hv hvl hS
  clear hrow hB hv hvl hS f1
  gi_wp2
  refine ⟨by simp, .inl ⟨_, _, rfl, run_takeDeferred hK, ?_⟩⟩
  refine ⟨v, by simp [results, Tryz.f133, go_sem], v, rfl, ?_, HI.out.2.1.trans (below_put W D _ _ (by omega) hK rfl rfl)⟩
  exact ownsRow_own HI.out.1 (grownBy_putObj' W D _) (fun r e => by cases e; exact ⟨_, hK, rfl⟩)
 case stop =>
  rintro D cd pre W hD hpre hF
  exact hF.elim
theorem rowU_of_owns {w : World} {B : Nat} {v : Value} {q : List Nat} (h : w.ownsRow B 82 1 v q.length (uV q)) (hq : q ≠ []) : RowU w B v q := by
 rcases h.2 with ⟨_, hx⟩ | ⟨g, cap, cur, hv, hb, hg, h1, h2, h3, h4⟩
 · exact absurd (List.length_eq_zero_iff.1 hx) hq
 · refine ⟨g, cap, hv, hb, fun i hi => ?_⟩
   rw [cell_of_block hg]
   have : (cur.toList.take (q.length * 1))[i]? = (uV q)[i]? := by rw [h4]
   rw [List.getElem?_take_of_lt (by omega), Array.getElem?_toList] at this
   rw [this]
   simp [uV, List.getElem?_eq_getElem hi]
theorem collect_words {w : World} {g : Nat} {lb : Array Value} {q : List Nat} {N : Nat} (hN : N ≤ 100000) (eg : ∀ args w, (callFunc g args).run Tryz.prog w = .ok (.enter g args) w)
 (hseq : SeqStopsK Fence.wide 6 Tryz.prog g lb encU (Below w.heap.size) (fun xs => valsU xs = q) (fun _ => True) N w) :
 Calls Tryz.prog 104 #[.func (.func g) #[] lb] w fun e w' => ∃ v, e = .returned v ∧ w'.ownsRow w.heap.size 82 1 v q.length (uV q) ∧ Below w.heap.size w w' := by
 have ha := callsIn_wide.1 (append_seq hN eg hseq)
 have HA := Lib.hid ha
 clear ha hseq eg
 go_enter Tryz.func104, Tryz.ntmps104
 go_wp2_with fail
 refine HA.out.mono ?_
 rintro e w1 ⟨v, rfl, hr⟩
 have HR := Lib.hid hr
 clear hr
 go_wp2_with fail
 go_ret
 exact ⟨_, rfl, HR.out⟩
theorem infoU8 : (Tryz.prog.info? 5).map (fun i => (i.zero, i.size, i.bytes)) = some (some (.int .u8 0), 1, 1) := by kernel_rfl
def bV (l : List UInt8) (k : Nat) : List Value := (List.range k).map fun i => Value.int .u8 (byteAt l i : Nat)
theorem conv_nil (w : World) : (convert 49 9 (.slice none 0 0)).run Tryz.prog w = .ok (.string ⟨#[]⟩) w := by kernel_rfl
theorem conv_back {w : World} {B : Nat} {v : Value} {l : List UInt8} (h : w.ownsRow B 5 1 v l.length (bV l l.length)) : (convert 49 9 v).run Tryz.prog w = .ok (SV l) w := by
 rcases h.2 with ⟨rfl, hx⟩ | ⟨g, cap, cur, rfl, hb, hg, h1, h2, h3, h4⟩
 · obtain rfl := List.length_eq_zero_iff.1 hx
   exact conv_nil w
 · refine run_convert_bytes_back (P := Tryz.prog) w _ _ 5 ⟨g, 0, none⟩ cap l Tryz.underlying49 Tryz.underlying5 Tryz.underlying9 (fun j hj => ?_)
   have hadd : (⟨g, 0, none⟩ : Addr).add j = ⟨g, j, none⟩ := by unfold Addr.add; split <;> simp_all
   rw [hadd, cell_of_block hg]
   have : (cur.toList.take (l.length * 1))[j]? = (bV l l.length)[j]? := by rw [h4]
   rw [List.getElem?_take_of_lt (by omega), Array.getElem?_toList] at this
   rw [this]
   simp [bV, byteAt, List.getD_eq_getElem?_getD, hj]
theorem text_of {w : World} {B : Nat} {v : Value} {l : List UInt8} (h : RowU w B v (wordsOf l)) (hl : l.length ≤ 1000) :
 Calls Tryz.prog 97 #[v] w fun e w' => e = .returned (.tuple #[SV l, .int .i64 0]) ∧ Below w.heap.size w w' := by
 have hm := fun W => text_many l.length W (by omega)
 rw [← wordsOf_many l hl] at hm
 have hwo := fun W => text_words l W hl
 have hwl := wordsOf_length l
 have hh0 : ∃ r, wordsOf l = l.length :: r := ⟨_, rfl⟩
 obtain ⟨i0, hi, hz0, hz1, hz2⟩ := info_parts infoU8
 have h' := h
 obtain ⟨G, c, rfl, hB, hc⟩ := h
 obtain ⟨n, hn⟩ : ∃ n, l.length = n := ⟨_, rfl⟩
 obtain ⟨m, hm'⟩ : ∃ m, (wordsOf l).length = m := ⟨_, rfl⟩
 have c0 : w.cell? ⟨G, 0, none⟩ = some (.int .u64 n) := by
  have := hc 0 (by omega)
  obtain ⟨r, hr⟩ := hh0
  rw [this]
  simp [hr, hn]
 have hcs : ∀ i, i < n → w.cell? ⟨G, 1 + i / 8, none⟩ = some (.int .u64 (cell l (i / 8) 8 : Nat)) := fun i hi => by
  have h1 := wordsOf_at l i (by omega)
  obtain ⟨h2, h3⟩ := List.getElem?_eq_some_iff.1 h1
  rw [hc _ h2, h3]
 rw [hm', hn] at hm
 rw [hm'] at hwl
 rw [hn] at hwl hl
 have hm0 : ((m : Int) == 0) = false := by simp; omega
 have hn1 : (n : Int) ≤ 1000 := by omega
 have hmm : m ≤ 200 := by omega
 have hm00 : (0 : Int) < m := by omega
 have HG := kq7 hm hwo h' hn hm' hcs hwl
 rw [hm']
 clear hm hwo h' hn hm' hcs hwl hB hc hh0
 go_enter Tryz.func97, Tryz.ntmps97
 go_wp2_with fail
 refine (HG.out.1 _).mono ?_
 rintro e w1 ⟨rfl, rfl⟩
 go_wp2_with fail
 go_loopw [4, 5, 32] (fun v _ i wr => ∃ k : Nat, k ≤ n ∧ i = .int .i64 k ∧ wr.ownsRow w.heap.size 5 1 v k (bV l k) ∧ Below w.heap.size w wr) (fun _ _ i _ => n - (intOf i).toNat)
 case atStart => exact ⟨0, by omega, rfl, ⟨rfl, Or.inl ⟨rfl, rfl⟩⟩, Below.refl _ _⟩
 case round =>
  obtain ⟨k, hk, rfl, hrow, hB⟩ := hrel
  by_cases hlt : k < n
  · have hlt' : (k : Int) < n := by omega
    have hG : G < w.heap.size := by
     unfold World.cell? at c0
     split at c0
     · rename_i heq; exact (gl heq)
     · cases c0
    have hc1 := (hB.cell (p := ⟨G, 1 + k / 8, none⟩) hG).trans (HG.out.2.2.2.2.2.1 k hlt)
    have hby := cell_byte l (k / 8) (7 - k % 8) (k % 8) (by omega)
    rw [show 8 * (k / 8) + k % 8 = k by omega] at hby
    obtain ⟨q, hq⟩ : ∃ q, k / 8 = q := ⟨_, rfl⟩
    obtain ⟨r, hr⟩ : ∃ r, k % 8 = r := ⟨_, rfl⟩
    obtain ⟨s, hs⟩ : ∃ s, 8 * (7 - r) = s := ⟨_, rfl⟩
    have hr8 : r < 8 := by omega
    rw [hr, hs] at hby
    rw [hq] at hc1 hby
    have hqm : 1 + q < m := by have := HG.out.2.2.2.2.2.2; omega
    have hq' : (k : Int) / 8 = (q : Int) := by omega
    have hr' : (k : Int) % 8 = (r : Int) := by omega
    have hs' : 8 * (7 - (r : Int)) = (s : Int) := by omega
    have hx := cell_lt l q 8 (Nat.le_refl _)
    generalize cell l q 8 = x at *
    have HI := kq3 hrow hB hby
    have hs56 : s ≤ 56 := by omega
    clear hrow hB hby hq hr hs
    go_wp2_with (at_builtin; refine wpList_append_own_at _ rfl _ _ 49 rfl w.heap.size 5 i0 (.int .u8 0) 1 1 Tryz.underlying49 hi hz0 hz1 hz2 rfl (by decide) _ _ _ rfl (HI.out.1.alloc _) ⟨wr.heap.size, 0, none⟩ 1 1 [.int .u8 (byteAt l k : Nat)] rfl rfl ?c1 ?c2 ?c3 ?c4 ?c5 ?_)
    case c1 =>
     rw [show ((x : Int) / 2 ^ s % 256) = ((byteAt l k : Nat) : Int) by rw [← HI.out.2.2]; push_cast; rfl]
     exact cell_one_new _ _ _
    case c2 => simp [Value.oneCell']
    case c3 => unfold maxLen; omega
    case c4 => omega
    case c5 => have := HI.out.2.1.size; simp; omega
    intro v' w1 hown hgrow _ hat
    have hBW := HI.out.2.1.size
    have hbA : Below w.heap.size wr w1 := ((Below.refl _ wr).mono hBW |>.alloc hBW (.cells #[.int .u8 ((x : Int) / 2 ^ s % 256)] 5)).grown hgrow (by simp; omega) (fun k e => (HI.out.1.lt k e).1)
    have hbv : bV l k ++ [.int .u8 (byteAt l k : Nat)] = bV l (k + 1) := by simp [bV, List.range_succ]
    rw [hbv] at hown
    have HW := kq2 hown (HI.out.2.1.trans hbA)
    clear hown hgrow hat hBW hbA hbv
    go_wp2_with fail
    go_roundw
    case rel => exact ⟨k + 1, by omega, by simp, HW.out⟩
    case measure => simp [intOf]; omega
  · obtain rfl : k = n := by omega
    have hcv : (convert 49 9 u4).run Tryz.prog wr = .ok (SV l) wr := conv_back (by rw [HG.out.2.2.2.1]; exact hrow)
    have HI := Lib.hid hB
    clear hrow hB
    go_wp2_with fail
    refine (HG.out.2.1 wr).mono ?_
    rintro e w2 ⟨v2, rfl, hr2, hb2⟩
    have hr1 := (HG.out.2.2.1.below HI.out).below hb2
    have heq := words_equal hr2 hr1 (by rw [HG.out.2.2.2.2.1]; omega)
    rw [HG.out.2.2.2.2.1] at heq
    have HE := kq2 heq (HI.out.trans (hb2.mono HI.out.size))
    clear hr2 hr1 hb2 heq
    go_wp2_with fail
    refine HE.out.1.mono ?_
    rintro e w3 ⟨rfl, q, rfl⟩
    go_wp2_with fail
    go_ret2
    exact ⟨rfl, HE.out.2.trans ⟨rfl, rfl, rfl, Nat.le_refl _, fun _ _ => rfl⟩⟩
theorem blob_get {w : World} {ps : Nat} {S : St} {Y : Nat → Prop} (h : StOn w ps S Y) (hi : Inv S) (hh : Nat) (hl : hh < 18446744073709551616) (hg : (getBlob S hh).2 ≠ 8) :
 Calls Tryz.prog 80 #[PV ps, .int .u64 hh] w fun e w' => e = .returned (.tuple #[SV (getBlob S hh).1, .int .i64 ((getBlob S hh).2 : Nat)]) ∧ Below w.heap.size w w' := by
 have hle := st_len h hi hh hl
 obtain ⟨R, hR⟩ : ∃ R, getBlob S hh = R := ⟨_, rfl⟩
 rw [hR] at hg ⊢
 unfold getBlob at hR
 obtain ⟨⟨n, er⟩, hn⟩ : ∃ r, S.len hh = r := ⟨_, rfl⟩
 rw [hn] at hle hR
 simp only at hle
 cases er with
 | succ er =>
  have hR1 : R = ([], er + 1) := by rw [← hR]; rfl
  have hq1 : (((er + 1 : Nat) : Int) != 0) = true := by simp; omega
  obtain ⟨g1, hg1⟩ : ∃ g1, er + 1 = g1 := ⟨_, rfl⟩
  rw [hg1] at hle hR1 hq1
  have HG := kq2 hle hR1
  clear hle hR hR1 hg1 hg h hi hn
  go_enter Tryz.func80, Tryz.ntmps80
  go_wp2_with fail
  refine HG.out.1.mono ?_
  rintro e w1 ⟨rfl, rfl⟩
  go_wp2_with fail
  go_ret2
  obtain rfl := HG.out.2
  exact ⟨rfl, Below.refl _ _⟩
 | zero =>
  cases ht : textOf (recWords S hh) with
  | none =>
   rw [ht] at hR
   exact absurd (by rw [← hR]; rfl) hg
  | some t =>
   have hR1 : R = (t, 0) := by rw [← hR, ht]; rfl
   obtain ⟨htl, hrw⟩ := textOf_some ht
   have HG := kq6 hle hR1 h hi hrw htl
   clear hle hR hR1 hg h hi hn ht hrw htl
   go_enter Tryz.func80, Tryz.ntmps80
   go_wp2_with fail
   refine HG.out.1.mono ?_
   rintro e w1 ⟨rfl, rfl⟩
   go_wp2_with fail
   refine (blob_words ps hh w).mono ?_
   rintro e w1 ⟨rfl, hw1⟩
   have hb : Below w.heap.size w w1 := by rw [hw1]; exact ((Below.refl _ w).alloc (Nat.le_refl _) _).alloc (by simp) _
   have hsz : w1.heap.size = w.heap.size + 2 := by rw [hw1]; simp
   have k0 : w1.cell? ⟨w.heap.size, 0, none⟩ = some (PV ps) := by
    have : w1.heap[w.heap.size]? = some (.cells #[PV ps] 25 (0, 0)) := by rw [hw1, heap_alloc_old _ _ (by simp)]; exact heap_alloc_new w _
    rw [cell_of_block this]; rfl
   have k1 : w1.cell? ⟨w.heap.size + 1, 0, none⟩ = some (.int .u64 hh) := by
    have h0 : w1.heap[w.heap.size + 1]? = some (.cells #[.int .u64 hh] 83 (0, 0)) := by
     have := heap_alloc_new (w.alloc (.cells #[PV ps] 25)) (.cells #[.int .u64 hh] 83)
     rw [World.size_alloc] at this
     rw [hw1]; exact this
    rw [cell_of_block h0]; rfl
   have hst := words_stops (HG.out.2.2.1.below hb) HG.out.2.2.2.1 hh hl w.heap.size (w.heap.size + 1) ⟨by omega, k0⟩ ⟨by omega, k1⟩
   rw [HG.out.2.2.2.2.1] at hst
   have hco := collect_words (by omega) (enters_of Tryz.func134 (by kernel_rfl) rfl) hst
   have HC := kq2 hco hb
   clear hst hco hb hsz k0 k1 hw1
   go_wp2_with fail
   refine HC.out.1.mono ?_
   rintro e w2 ⟨v, rfl, hrow, hb2⟩
   have hru := rowU_of_owns hrow (by unfold wordsOf; simp)
   have hof := text_of hru HG.out.2.2.2.2.2
   have HO := kq2 hof (HC.out.2.trans (hb2.mono HC.out.2.size))
   clear hrow hb2 hru hof
   go_wp2_with fail
   refine HO.out.1.mono ?_
   rintro e w3 ⟨rfl, hb3⟩
   have HB := Lib.hid (HO.out.2.trans (hb3.mono HO.out.2.size))
   clear hb3
   go_wp2_with fail
   go_ret2
   obtain rfl := HG.out.2.1
   exact ⟨rfl, HB.out⟩
theorem cmpB_eq : ∀ (a b : List UInt8), cmpB a b = Lib.compareBytes a b
 | [], [] => rfl
 | [], _ :: _ => rfl
 | _ :: _, [] => rfl
 | a :: l, b :: m => by
  unfold cmpB Lib.compareBytes
  rw [cmpB_eq l m]
theorem strings_compare (a b : List UInt8) (w : World) :
 Calls Tryz.prog 183 #[SV a, SV b] w fun e w' => e = .returned (.int .i64 (cmpB a b)) ∧ w' = w := by
 have hc := Tryz.bytealg_CompareString ⟨a.toArray⟩ ⟨b.toArray⟩ w
 rw [cmpB_eq]
 have HC := Lib.hid hc
 clear hc
 go_enter Tryz.func183, Tryz.ntmps183
 go_wp2_with fail
 refine HC.out.mono ?_
 rintro e w1 ⟨rfl, rfl⟩
 go_wp2_with fail
 go_ret
 exact ⟨rfl, rfl⟩
theorem text_compare (a b : List UInt8) (w : World) :
 Calls Tryz.prog 161 #[SV a, SV b] w fun e w' => e = .returned (.int .i64 (cmpB a b)) ∧ w' = w := by
 have HC := Lib.hid (strings_compare a b w)
 go_enter Tryz.func161, Tryz.ntmps161
 go_wp2_with fail
 refine HC.out.mono ?_
 rintro e w1 ⟨rfl, rfl⟩
 go_wp2_with fail
 go_ret
 exact ⟨rfl, rfl⟩
end Go.Proofs.YtcibkdbpicledaaGreatDoor
namespace Go.Proofs.YtcibkdbpicledaaGreatDoor
open Go.RowKit Go.BigFrame Go.Maps Go.WideMaps Lf
def ndV (n : Nd) : Value := .agg #[.int .u64 n.key, .int .u64 n.val, .int .u64 n.left, .int .u64 n.right, .int .u64 n.mark, .int .u64 n.size]
structure NdLt (n : Nd) : Prop where
 key : n.key < 18446744073709551616
 val : n.val < 18446744073709551616
 left : n.left < 18446744073709551616
 right : n.right < 18446744073709551616
 mark : n.mark < 18446744073709551616
 size : n.size < 18446744073709551616
theorem node_asked {w : World} {ps : Nat} {S : St} {Y : Nat → Prop} (h : StOn w ps S Y) (hi : Inv S) (hh : Nat) (hl : hh < 18446744073709551616) :
 Calls Tryz.prog 168 #[PV ps, .int .u64 hh] w fun e w' => e = .returned (.int .i64 (askedN S hh : Nat)) ∧ w = w' := by
 have hle := st_len h hi hh hl
 obtain ⟨R, hR⟩ : ∃ R, askedN S hh = R := ⟨_, rfl⟩
 rw [hR]
 unfold askedN at hR
 obtain ⟨⟨n, er⟩, hn⟩ : ∃ r, S.len hh = r := ⟨_, rfl⟩
 rw [hn] at hle hR
 simp only at hle
 cases er with
 | succ er =>
  have hR1 : R = er + 1 := by rw [← hR]; rfl
  have hq1 : (((er + 1 : Nat) : Int) == 0) = false := by simp; omega
  obtain ⟨g1, hg1⟩ : ∃ g1, er + 1 = g1 := ⟨_, rfl⟩
  rw [hg1] at hle hR1 hq1
  have HG := kq2 hle hR1
  clear hle hR hR1 hg1 h hi hn
  go_enter Tryz.func168, Tryz.ntmps168
  go_wp2_with fail
  refine HG.out.1.mono ?_
  rintro e w1 ⟨rfl, rfl⟩
  go_wp2_with fail
  go_ret
  obtain rfl := HG.out.2
  exact ⟨rfl, rfl⟩
 | zero =>
  by_cases h6 : n = 6
  · have hR1 : R = 0 := by rw [← hR, h6]; rfl
    subst h6
    have HG := kq2 hle hR1
    clear hle hR hR1 h hi hn
    go_enter Tryz.func168, Tryz.ntmps168
    go_wp2_with fail
    refine HG.out.1.mono ?_
    rintro e w1 ⟨rfl, rfl⟩
    go_wp2_with fail
    go_ret
    obtain rfl := HG.out.2
    exact ⟨rfl, rfl⟩
  · have hR1 : R = 8 := by rw [← hR]; show (if n ≠ 6 then 8 else 0) = 8; rw [if_pos h6]
    have hq1 : ((n : Int) != 6) = true := by simp; omega
    have HG := kq2 hle hR1
    clear hle hR hR1 h hi hn h6
    go_enter Tryz.func168, Tryz.ntmps168
    go_wp2_with fail
    refine HG.out.1.mono ?_
    rintro e w1 ⟨rfl, rfl⟩
    go_wp2_with fail
    go_ret
    obtain rfl := HG.out.2
    exact ⟨rfl, rfl⟩
theorem node_fields (n : Nd) (w : World) :
 Calls Tryz.prog 265 #[ndV n] w fun e w' => e = .returned (ndV n) ∧ Below w.heap.size w w' := by
 obtain ⟨k, v, l, r, m, s⟩ := n
 unfold ndV
 simp only
 have hb : ∀ o o', Below w.heap.size w ((w.alloc o).alloc o') := fun o o' => ((Below.refl _ w).alloc (Nat.le_refl _) o).alloc (by simp) o'
 have HB := Lib.hid hb
 clear hb
 go_enter Tryz.func265, Tryz.ntmps265
 go_wp2_with fail
 refine bodyPost_ret (v := .agg #[.int .u64 k, .int .u64 v, .int .u64 l, .int .u64 r, .int .u64 m, .int .u64 s]) (by simp [results, Tryz.f265, go_sem]) rfl ⟨rfl, HB.out _ _⟩
def gotV (S : St) (hh k : Nat) : List Value := (List.range 6).map fun i => .int .u64 (if i < k then ((S.get hh i).1 : Nat) else (0 : Nat))
theorem node_get {w : World} {ps : Nat} {S : St} {Y : Nat → Prop} (h : StOn w ps S Y) (hi : Inv S) (hh : Nat) (hl : hh < 18446744073709551616) :
 Calls Tryz.prog 140 #[PV ps, .int .u64 hh] w fun e w' => e = .returned (.tuple #[ndV (getNode S hh).1, .int .i64 ((getNode S hh).2 : Nat)]) ∧ Below w.heap.size w w' := by
 have hb1 : Below w.heap.size w (w.alloc (.cells #[.int .u64 0, .int .u64 0, .int .u64 0, .int .u64 0, .int .u64 0, .int .u64 0] 232)) := (Below.refl _ w).alloc (Nat.le_refl _) _
 have has := node_asked (h.below hb1) hi hh hl
 have hgt := fun W (hW : Below w.heap.size w W) (k : Nat) (hk : k ≤ 6) => st_get (h.below hW) hi hh k hl (by omega)
 obtain ⟨R, hR⟩ : ∃ R, getNode S hh = R := ⟨_, rfl⟩
 rw [hR]
 unfold getNode at hR
 obtain ⟨a, ha⟩ : ∃ a, askedN S hh = a := ⟨_, rfl⟩
 rw [ha] at has hR
 cases a with
 | succ a =>
  have hR1 : R = (Nd.zero, a + 1) := by rw [← hR]; rfl
  have hq1 : (((a + 1 : Nat) : Int) != 0) = true := by simp; omega
  obtain ⟨g1, hg1⟩ : ∃ g1, a + 1 = g1 := ⟨_, rfl⟩
  rw [hg1] at has hR1 hq1
  have HG := kq3 has hR1 hb1
  clear has hR hR1 hg1 h hi ha hgt hb1
  go_enter Tryz.func140, Tryz.ntmps140
  go_wp2_with fail
  refine HG.out.1.mono ?_
  rintro e w1 ⟨rfl, rfl⟩
  go_wp2_with fail
  obtain rfl := HG.out.2.1
  refine bodyPost_ret (v := .tuple #[ndV Nd.zero, .int .i64 g1]) (by simp [results, Tryz.f140, go_sem, ndV, Nd.zero]) rfl ⟨rfl, (Below.refl _ w).alloc (Nat.le_refl _) _⟩
 | zero =>
  have hR1 : R = (⟨(S.get hh 0).1, (S.get hh 1).1, (S.get hh 2).1, (S.get hh 3).1, (S.get hh 4).1, (S.get hh 5).1⟩, 0) := by rw [← hR]; rfl
  have HG := kq4 has hR1 hb1 hgt
  clear has hR hR1 h hi ha hgt hb1
  go_enter Tryz.func140, Tryz.ntmps140
  go_wp2_with fail
  refine HG.out.1.mono ?_
  rintro e w1 ⟨rfl, rfl⟩
  go_wp2_with fail
  have hA : ∀ k, gotV S hh k = [.int .u64 (if 0 < k then ((S.get hh 0).1 : Nat) else (0 : Nat)), .int .u64 (if 1 < k then ((S.get hh 1).1 : Nat) else (0 : Nat)), .int .u64 (if 2 < k then ((S.get hh 2).1 : Nat) else (0 : Nat)), .int .u64 (if 3 < k then ((S.get hh 3).1 : Nat) else (0 : Nat)), .int .u64 (if 4 < k then ((S.get hh 4).1 : Nat) else (0 : Nat)), .int .u64 (if 5 < k then ((S.get hh 5).1 : Nat) else (0 : Nat))] := fun k => rfl
  have hst : ∀ k, k < 6 → (gotV S hh k).toArray.setIfInBounds k (.int .u64 ((S.get hh k).1 : Nat)) = (gotV S hh (k + 1)).toArray := fun k hk => by
   apply Array.toList_inj.1
   simp only [Array.toList_setIfInBounds]
   apply List.ext_getElem (by simp [gotV])
   intro n h1 h2
   simp only [gotV, List.getElem_set, List.getElem_map, List.getElem_range]
   by_cases e : k = n
   · subst e; simp
   · rw [if_neg e]
     by_cases e2 : n < k
     · rw [if_pos e2, if_pos (by omega)]
     · rw [if_neg e2, if_neg (by omega)]
  go_name_world W0 HW0
  have q1 : W0.heap[w.heap.size + 1]? = some (.cells (gotV S hh 0).toArray 273 (0, 0)) := by
   rw [← HW0]
   have := heap_alloc_new (w.alloc (.cells #[.int .u64 0, .int .u64 0, .int .u64 0, .int .u64 0, .int .u64 0, .int .u64 0] 232)) (.cells #[.int .u64 0, .int .u64 0, .int .u64 0, .int .u64 0, .int .u64 0, .int .u64 0] 273)
   rw [World.size_alloc] at this
   exact this
  have q0 : W0.heap[w.heap.size]? = some (.cells #[.int .u64 0, .int .u64 0, .int .u64 0, .int .u64 0, .int .u64 0, .int .u64 0] 232 (0, 0)) := by
   rw [← HW0, heap_alloc_old _ _ (by simp)]; exact heap_alloc_new w _
  have qb : Below w.heap.size w W0 := by rw [← HW0]; exact HG.out.2.2.1.alloc (by simp) _
  clear HW0
  have H0 := kq5 q1 q0 qb hA hst
  clear q1 q0 qb hA hst
  go_loopw [8, 16] (fun _ i wr => ∃ k : Nat, k ≤ 6 ∧ i = .int .i64 k ∧ wr.heap[w.heap.size + 1]? = some (.cells (gotV S hh k).toArray 273 (0, 0)) ∧ wr.heap[w.heap.size]? = some (.cells #[.int .u64 0, .int .u64 0, .int .u64 0, .int .u64 0, .int .u64 0, .int .u64 0] 232 (0, 0)) ∧ Below w.heap.size w wr) (fun _ i _ => 6 - (intOf i).toNat)
  case atStart => exact ⟨0, by omega, rfl, H0.out.1, H0.out.2.1, H0.out.2.2.1⟩
  case round =>
   obtain ⟨k, hk, rfl, r1, r0, rb⟩ := hrel
   by_cases hlt : k < 6
   · have hlt' : (k : Int) < 6 := by omega
     have hge := HG.out.2.2.2 wr rb k hk
     have c1 : ∃ v, wr.cell? ⟨w.heap.size + 1, k, none⟩ = some v := by
      rw [cell_of_block r1]
      refine ⟨(gotV S hh k)[k]'(by simp [gotV]; omega), ?_⟩
      rw [List.getElem?_toArray, List.getElem?_eq_getElem]
     obtain ⟨v0, c1⟩ := c1
     have f1 : wr.frozen? ⟨w.heap.size + 1, k, none⟩ = false := frozen_of_block r1
     have hs2 := H0.out.2.2.2.2 k hlt
     generalize (S.get hh k).1 = x at hge hs2
     generalize (S.get hh k).2 = er at hge
     have HK := kq5 hge r1 r0 rb hs2
     clear hge r1 r0 rb hs2
     go_wp2_with fail
     refine HK.out.1.mono ?_
     rintro e w2 ⟨rfl, rfl⟩
     go_wp2_with fail
     go_roundw
     case rel =>
      refine ⟨k + 1, by omega, by simp, ?_, ?_, HK.out.2.2.2.1.setCell (p := ⟨w.heap.size + 1, k, none⟩) (by simp) _⟩
      · rw [heap_setCell HK.out.2.1, HK.out.2.2.2.2]
      · rw [heap_setCell_ne (by omega)]; exact HK.out.2.2.1
     case measure => simp [intOf]; omega
   · obtain rfl : k = 6 := by omega
     have hA := H0.out.2.2.2.1 6
     simp only [show (0 : Nat) < 6 from by decide, show (1 : Nat) < 6 from by decide, show (2 : Nat) < 6 from by decide, show (3 : Nat) < 6 from by decide, show (4 : Nat) < 6 from by decide, show (5 : Nat) < 6 from by decide, if_true] at hA
     rw [hA] at r1
     have g0 := HG.out.2.1
     generalize (S.get hh 0).1 = x0 at r1 g0
     generalize (S.get hh 1).1 = x1 at r1 g0
     generalize (S.get hh 2).1 = x2 at r1 g0
     generalize (S.get hh 3).1 = x3 at r1 g0
     generalize (S.get hh 4).1 = x4 at r1 g0
     generalize (S.get hh 5).1 = x5 at r1 g0
     have a0 : wr.cell? ⟨w.heap.size + 1, 0, none⟩ = some (.int .u64 x0) := by rw [cell_of_block r1]; rfl
     have a1 : wr.cell? ⟨w.heap.size + 1, 1, none⟩ = some (.int .u64 x1) := by rw [cell_of_block r1]; rfl
     have a2 : wr.cell? ⟨w.heap.size + 1, 2, none⟩ = some (.int .u64 x2) := by rw [cell_of_block r1]; rfl
     have a3 : wr.cell? ⟨w.heap.size + 1, 3, none⟩ = some (.int .u64 x3) := by rw [cell_of_block r1]; rfl
     have a4 : wr.cell? ⟨w.heap.size + 1, 4, none⟩ = some (.int .u64 x4) := by rw [cell_of_block r1]; rfl
     have a5 : wr.cell? ⟨w.heap.size + 1, 5, none⟩ = some (.int .u64 x5) := by rw [cell_of_block r1]; rfl
     have b0 : wr.cell? ⟨w.heap.size, 0, none⟩ = some (.int .u64 0) := by rw [cell_of_block r0]; rfl
     have b1 : wr.cell? ⟨w.heap.size, 1, none⟩ = some (.int .u64 0) := by rw [cell_of_block r0]; rfl
     have b2 : wr.cell? ⟨w.heap.size, 2, none⟩ = some (.int .u64 0) := by rw [cell_of_block r0]; rfl
     have b3 : wr.cell? ⟨w.heap.size, 3, none⟩ = some (.int .u64 0) := by rw [cell_of_block r0]; rfl
     have b4 : wr.cell? ⟨w.heap.size, 4, none⟩ = some (.int .u64 0) := by rw [cell_of_block r0]; rfl
     have b5 : wr.cell? ⟨w.heap.size, 5, none⟩ = some (.int .u64 0) := by rw [cell_of_block r0]; rfl
     have bf : ∀ o, wr.frozen? ⟨w.heap.size, o, none⟩ = false := fun o => frozen_of_block r0
     have f0 := bf 0
     have f1 := bf 1
     have f2 := bf 2
     have f3 := bf 3
     have f4 := bf 4
     have f5 := bf 5
     have HK := kq4 r1 r0 rb g0
     clear r1 r0 rb g0 hA bf
     go_wp2_with fail
     have hX : ((((((wr.setCell ⟨w.heap.size, 0, none⟩ (.int .u64 x0)).setCell ⟨w.heap.size, 1, none⟩ (.int .u64 x1)).setCell ⟨w.heap.size, 2, none⟩ (.int .u64 x2)).setCell ⟨w.heap.size, 3, none⟩ (.int .u64 x3)).setCell ⟨w.heap.size, 4, none⟩ (.int .u64 x4)).setCell ⟨w.heap.size, 5, none⟩ (.int .u64 x5)).heap[w.heap.size]? = some (.cells #[.int .u64 x0, .int .u64 x1, .int .u64 x2, .int .u64 x3, .int .u64 x4, .int .u64 x5] 232 (0, 0)) := by
      rw [heap_setCell (heap_setCell (heap_setCell (heap_setCell (heap_setCell (heap_setCell HK.out.2.1)))))]; rfl
     have hY : Below w.heap.size w ((((((wr.setCell ⟨w.heap.size, 0, none⟩ (.int .u64 x0)).setCell ⟨w.heap.size, 1, none⟩ (.int .u64 x1)).setCell ⟨w.heap.size, 2, none⟩ (.int .u64 x2)).setCell ⟨w.heap.size, 3, none⟩ (.int .u64 x3)).setCell ⟨w.heap.size, 4, none⟩ (.int .u64 x4)).setCell ⟨w.heap.size, 5, none⟩ (.int .u64 x5)) :=
      (((((HK.out.2.2.1.setCell (p := ⟨w.heap.size, 0, none⟩) (Nat.le_refl w.heap.size) _).setCell (p := ⟨w.heap.size, 1, none⟩) (Nat.le_refl w.heap.size) _).setCell (p := ⟨w.heap.size, 2, none⟩) (Nat.le_refl w.heap.size) _).setCell (p := ⟨w.heap.size, 3, none⟩) (Nat.le_refl w.heap.size) _).setCell (p := ⟨w.heap.size, 4, none⟩) (Nat.le_refl w.heap.size) _).setCell (p := ⟨w.heap.size, 5, none⟩) (Nat.le_refl w.heap.size) _
     generalize ((((((wr.setCell ⟨w.heap.size, 0, none⟩ (.int .u64 x0)).setCell ⟨w.heap.size, 1, none⟩ (.int .u64 x1)).setCell ⟨w.heap.size, 2, none⟩ (.int .u64 x2)).setCell ⟨w.heap.size, 3, none⟩ (.int .u64 x3)).setCell ⟨w.heap.size, 4, none⟩ (.int .u64 x4)).setCell ⟨w.heap.size, 5, none⟩ (.int .u64 x5)) = W9 at *
     have e0 : W9.cell? ⟨w.heap.size, 0, none⟩ = some (.int .u64 x0) := by rw [cell_of_block hX]; rfl
     have e1 : W9.cell? ⟨w.heap.size, 1, none⟩ = some (.int .u64 x1) := by rw [cell_of_block hX]; rfl
     have e2 : W9.cell? ⟨w.heap.size, 2, none⟩ = some (.int .u64 x2) := by rw [cell_of_block hX]; rfl
     have e3 : W9.cell? ⟨w.heap.size, 3, none⟩ = some (.int .u64 x3) := by rw [cell_of_block hX]; rfl
     have e4 : W9.cell? ⟨w.heap.size, 4, none⟩ = some (.int .u64 x4) := by rw [cell_of_block hX]; rfl
     have e5 : W9.cell? ⟨w.heap.size, 5, none⟩ = some (.int .u64 x5) := by rw [cell_of_block hX]; rfl
     obtain rfl := HK.out.2.2.2
     exact bodyPost_ret (v := .tuple #[.agg #[.int .u64 x0, .int .u64 x1, .int .u64 x2, .int .u64 x3, .int .u64 x4, .int .u64 x5], .int .i64 0]) (by simp [results, Tryz.f140, go_sem, e0, e1, e2, e3, e4, e5]) rfl ⟨rfl, hY⟩
theorem node_drop_no {w : World} {ps : Nat} {S : St} {Y : Nat → Prop} (h : StOn w ps S Y) (hi : Inv S) (hh : Nat) (hl : hh < 18446744073709551616) (ha : askedN S hh ≠ 0) :
 Calls Tryz.prog 303 #[PV ps, .int .u64 hh] w fun e w' => e = .returned (.int .i64 (askedN S hh : Nat)) ∧ w = w' := by
 have has := node_asked h hi hh hl
 generalize askedN S hh = a at *
 have hq1 : ((a : Int) != 0) = true := by simp; omega
 have HG := Lib.hid has
 clear has ha h hi
 go_enter Tryz.func303, Tryz.ntmps303
 go_wp2_with fail
 refine HG.out.mono ?_
 rintro e w1 ⟨rfl, rfl⟩
 go_wp2_with fail
 go_ret
 exact ⟨rfl, rfl⟩
def ndL (n : Nd) : List Nat := [n.key, n.val, n.left, n.right, n.mark, n.size]
def NPut (ps hh : Nat) (n : Nd) (Y : Nat → Prop) (w2 : World) (F : St) (k : Nat) (wr : World) : Prop := ∃ Sk, StOn wr ps Sk Y ∧ Inv Sk ∧ putWords Sk hh k ((ndL n).drop k) = F ∧ Keep Y w2 wr
theorem NPut.step {ps hh : Nat} {n : Nd} {Y : Nat → Prop} {w2 : World} {F : St} {k : Nat} {wr : World} (h : NPut ps hh n Y w2 F k wr) (hl : hh < 18446744073709551616) (x : Nat) (hx : x < 18446744073709551616) (hk : k < 6) (hxk : (ndL n)[k]? = some x) :
 Calls Tryz.prog 99 #[PV ps, .int .u64 hh, .int .i64 k, .int .u64 x] wr fun e w' => ∃ er : Int, e = .returned (.int .i64 er) ∧ NPut ps hh n Y w2 F (k + 1) w' := by
 obtain ⟨Sk, h1, h2, h3, h4⟩ := h
 refine (st_put h1 h2 hh k x hl (by omega) hx).mono ?_
 rintro e w' ⟨rfl, h5, h6⟩
 obtain ⟨hlt, hv⟩ := List.getElem?_eq_some_iff.1 hxk
 rw [List.drop_eq_getElem_cons hlt, hv] at h3
 exact ⟨_, rfl, _, h5, h2.put hh k x, h3, h4.trans h6⟩
theorem ix6 (a0 a1 a2 a3 a4 a5 : Value) (w : World) :
 (Instr.index 273 (.agg #[a0, a1, a2, a3, a4, a5]) (.int .i64 0)).run Tryz.prog w = .ok a0 w ∧
 (Instr.index 273 (.agg #[a0, a1, a2, a3, a4, a5]) (.int .i64 1)).run Tryz.prog w = .ok a1 w ∧
 (Instr.index 273 (.agg #[a0, a1, a2, a3, a4, a5]) (.int .i64 2)).run Tryz.prog w = .ok a2 w ∧
 (Instr.index 273 (.agg #[a0, a1, a2, a3, a4, a5]) (.int .i64 3)).run Tryz.prog w = .ok a3 w ∧
 (Instr.index 273 (.agg #[a0, a1, a2, a3, a4, a5]) (.int .i64 4)).run Tryz.prog w = .ok a4 w ∧
 (Instr.index 273 (.agg #[a0, a1, a2, a3, a4, a5]) (.int .i64 5)).run Tryz.prog w = .ok a5 w := by
 refine ⟨?_, ?_, ?_, ?_, ?_, ?_⟩ <;> kernel_rfl
theorem node_put {w : World} {ps : Nat} {S : St} {Y : Nat → Prop} (h : StOn w ps S Y) (hi : Inv S) (hh : Nat) (hl : hh < 18446744073709551616) (n : Nd) (hn : NdLt n) :
 Calls Tryz.prog 254 #[PV ps, .int .u64 hh, ndV n] w fun e w' => e = .returned (.int .i64 ((putNode S hh n).1 : Nat)) ∧ StOn w' ps (putNode S hh n).2 Y ∧ Keep Y w w' := by
 have hY := h.yl
 obtain ⟨R, hR⟩ : ∃ R, putNode S hh n = R := ⟨_, rfl⟩
 rw [hR]
 unfold putNode at hR
 have hf := fun W => node_fields n W
 have hP : ∀ {F : St} {w2 : World}, True := trivial
 obtain ⟨k0, k1, k2, k3, k4, k5⟩ := n
 obtain ⟨l0, l1, l2, l3, l4, l5⟩ := hn
 simp only at l0 l1 l2 l3 l4 l5
 unfold ndV at hf ⊢
 simp only at hf ⊢
 have hb1 : Below w.heap.size w (w.alloc (.cells #[.int .u64 k0, .int .u64 k1, .int .u64 k2, .int .u64 k3, .int .u64 k4, .int .u64 k5] 232)) := (Below.refl _ w).alloc (Nat.le_refl _) _
 have has := node_asked (h.below hb1) hi hh hl
 obtain ⟨a, ha⟩ : ∃ a, askedN S hh = a := ⟨_, rfl⟩
 rw [ha] at has hR
 cases a with
 | succ a =>
  have hR1 : R = (a + 1, S) := by rw [← hR]; rfl
  have hq1 : (((a + 1 : Nat) : Int) != 0) = true := by simp; omega
  obtain ⟨g1, hg1⟩ : ∃ g1, a + 1 = g1 := ⟨_, rfl⟩
  rw [hg1] at has hR1 hq1
  have HG := kq4 has hR1 hb1 h
  clear has hR hR1 hg1 h hi ha hf hb1 hY
  go_enter Tryz.func254, Tryz.ntmps254
  go_wp2_with fail
  refine HG.out.1.mono ?_
  rintro e w1 ⟨rfl, rfl⟩
  go_wp2_with fail
  go_ret
  obtain rfl := HG.out.2.1
  exact ⟨rfl, HG.out.2.2.2.below HG.out.2.2.1, HG.out.2.2.2.keep HG.out.2.2.1⟩
 | zero =>
  have hR1 : R = (0, putWords S hh 0 [k0, k1, k2, k3, k4, k5]) := by rw [← hR]; rfl
  have HG := kq6 has hR1 hb1 h hi hf
  clear has hR hR1 h hi ha hf hb1 hY
  go_enter Tryz.func254, Tryz.ntmps254
  go_wp2_with fail
  refine HG.out.1.mono ?_
  rintro e w1 ⟨rfl, rfl⟩
  go_wp2_with fail
  refine (HG.out.2.2.2.2.2 _).mono ?_
  rintro e w2 ⟨rfl, hb2⟩
  have hbb := HG.out.2.2.1.trans (hb2.mono HG.out.2.2.1.size)
  have H0 : NPut ps hh ⟨k0, k1, k2, k3, k4, k5⟩ Y w2 R.2 0 w2 := ⟨S, HG.out.2.2.2.1.below hbb, HG.out.2.2.2.2.1, by rw [HG.out.2.1]; rfl, Keep.refl _ _⟩
  have HB := Lib.hid hbb
  clear hbb hb2
  go_wp2_with fail
  go_loopw [8, 9, 18] (fun _ _ i wr => (i = .int .i64 0 ∧ NPut ps hh ⟨k0, k1, k2, k3, k4, k5⟩ Y w2 R.2 0 wr) ∨ (i = .int .i64 1 ∧ NPut ps hh ⟨k0, k1, k2, k3, k4, k5⟩ Y w2 R.2 1 wr) ∨ (i = .int .i64 2 ∧ NPut ps hh ⟨k0, k1, k2, k3, k4, k5⟩ Y w2 R.2 2 wr) ∨ (i = .int .i64 3 ∧ NPut ps hh ⟨k0, k1, k2, k3, k4, k5⟩ Y w2 R.2 3 wr) ∨ (i = .int .i64 4 ∧ NPut ps hh ⟨k0, k1, k2, k3, k4, k5⟩ Y w2 R.2 4 wr) ∨ (i = .int .i64 5 ∧ NPut ps hh ⟨k0, k1, k2, k3, k4, k5⟩ Y w2 R.2 5 wr) ∨ (i = .int .i64 6 ∧ NPut ps hh ⟨k0, k1, k2, k3, k4, k5⟩ Y w2 R.2 6 wr)) (fun _ _ i _ => 6 - (intOf i).toNat)
  case atStart => exact Or.inl ⟨rfl, H0⟩
  case round =>
   rcases hrel with ⟨rfl, hP⟩ | ⟨rfl, hP⟩ | ⟨rfl, hP⟩ | ⟨rfl, hP⟩ | ⟨rfl, hP⟩ | ⟨rfl, hP⟩ | ⟨rfl, hP⟩
   · have HS := Lib.hid (hP.step hl k0 l0 (by decide) rfl)
     have hix := fun w => (ix6 (.int .u64 k0) (.int .u64 k1) (.int .u64 k2) (.int .u64 k3) (.int .u64 k4) (.int .u64 k5) w).1
     clear hP H0
     go_wp2_with fail
     refine HS.out.mono ?_
     rintro e w3 ⟨er, rfl, hP⟩
     go_wp2_with fail
     go_roundw
     case rel => exact Or.inr (Or.inl ⟨rfl, hP⟩)
     case measure => simp [intOf]
   · have HS := Lib.hid (hP.step hl k1 l1 (by decide) rfl)
     have hix := fun w => (ix6 (.int .u64 k0) (.int .u64 k1) (.int .u64 k2) (.int .u64 k3) (.int .u64 k4) (.int .u64 k5) w).2.1
     clear hP H0
     go_wp2_with fail
     refine HS.out.mono ?_
     rintro e w3 ⟨er, rfl, hP⟩
     go_wp2_with fail
     go_roundw
     case rel => exact Or.inr (Or.inr (Or.inl ⟨rfl, hP⟩))
     case measure => simp [intOf]
   · have HS := Lib.hid (hP.step hl k2 l2 (by decide) rfl)
     have hix := fun w => (ix6 (.int .u64 k0) (.int .u64 k1) (.int .u64 k2) (.int .u64 k3) (.int .u64 k4) (.int .u64 k5) w).2.2.1
     clear hP H0
     go_wp2_with fail
     refine HS.out.mono ?_
     rintro e w3 ⟨er, rfl, hP⟩
     go_wp2_with fail
     go_roundw
     case rel => exact Or.inr (Or.inr (Or.inr (Or.inl ⟨rfl, hP⟩)))
     case measure => simp [intOf]
   · have HS := Lib.hid (hP.step hl k3 l3 (by decide) rfl)
     have hix := fun w => (ix6 (.int .u64 k0) (.int .u64 k1) (.int .u64 k2) (.int .u64 k3) (.int .u64 k4) (.int .u64 k5) w).2.2.2.1
     clear hP H0
     go_wp2_with fail
     refine HS.out.mono ?_
     rintro e w3 ⟨er, rfl, hP⟩
     go_wp2_with fail
     go_roundw
     case rel => exact Or.inr (Or.inr (Or.inr (Or.inr (Or.inl ⟨rfl, hP⟩))))
     case measure => simp [intOf]
   · have HS := Lib.hid (hP.step hl k4 l4 (by decide) rfl)
     have hix := fun w => (ix6 (.int .u64 k0) (.int .u64 k1) (.int .u64 k2) (.int .u64 k3) (.int .u64 k4) (.int .u64 k5) w).2.2.2.2.1
     clear hP H0
     go_wp2_with fail
     refine HS.out.mono ?_
     rintro e w3 ⟨er, rfl, hP⟩
     go_wp2_with fail
     go_roundw
     case rel => exact Or.inr (Or.inr (Or.inr (Or.inr (Or.inr (Or.inl ⟨rfl, hP⟩)))))
     case measure => simp [intOf]
   · have HS := Lib.hid (hP.step hl k5 l5 (by decide) rfl)
     have hix := fun w => (ix6 (.int .u64 k0) (.int .u64 k1) (.int .u64 k2) (.int .u64 k3) (.int .u64 k4) (.int .u64 k5) w).2.2.2.2.2
     clear hP H0
     go_wp2_with fail
     refine HS.out.mono ?_
     rintro e w3 ⟨er, rfl, hP⟩
     go_wp2_with fail
     go_roundw
     case rel => exact Or.inr (Or.inr (Or.inr (Or.inr (Or.inr (Or.inr ⟨rfl, hP⟩)))))
     case measure => simp [intOf]
   · have HP := Lib.hid hP
     clear hP H0
     go_wp2_with fail
     go_ret
     obtain ⟨Sk, h1, h2, h3, h4⟩ := HP.out
     have e1 : R.1 = 0 := by rw [HG.out.2.1]
     have e2 : Sk = R.2 := h3
     rw [e1, ← e2]
     exact ⟨rfl, h1, (Keep.of_below HB.out HG.out.2.2.2.1.yl).trans h4⟩
theorem node_make {w : World} {ps : Nat} {S : St} {Y : Nat → Prop} (h : StOn w ps S Y) (hm : MkOk S 6) (n : Nd) (hn : NdLt n) :
 Calls Tryz.prog 295 #[PV ps, ndV n] w fun e w' => e = .returned (.tuple #[.int .u64 ((makeNode S n).1.1 : Nat), .int .i64 ((makeNode S n).1.2 : Nat)]) ∧ StOn w' ps (makeNode S n).2 Y ∧ Keep Y w w' := by
 have hmk := fun W (hW : Below w.heap.size w W) => st_make (h.wide hW) 6 (by omega) hm.1
 have hmlt := make_lt h.tabwf 6
 have hmi := hm.2
 obtain ⟨R, hR⟩ : ∃ R, makeNode S n = R := ⟨_, rfl⟩
 rw [hR]
 unfold makeNode at hR
 obtain ⟨⟨⟨hh, er⟩, S1⟩, hS⟩ : ∃ r, S.make 6 = r := ⟨_, rfl⟩
 rw [hS] at hmk hmlt hmi hR
 simp only at hmk hmlt hmi
 have hpu := fun W Z (hW : StOn W ps S1 Z) => node_put hW hmi hh hmlt n hn
 obtain ⟨k0, k1, k2, k3, k4, k5⟩ := n
 unfold ndV at hpu ⊢
 simp only at hpu ⊢
 have hb1 : Below w.heap.size w (w.alloc (.cells #[.int .u64 k0, .int .u64 k1, .int .u64 k2, .int .u64 k3, .int .u64 k4, .int .u64 k5] 232)) := (Below.refl _ w).alloc (Nat.le_refl _) _
 have kx := heap_alloc_new w (.cells #[.int .u64 k0, .int .u64 k1, .int .u64 k2, .int .u64 k3, .int .u64 k4, .int .u64 k5] 232)
 have HG := kq6 (hmk _ hb1) hR hb1 h hpu kx
 clear hmk hR hb1 hm hmi hS hn hpu kx
 go_enter Tryz.func295, Tryz.ntmps295
 go_wp2_with fail
 refine HG.out.1.mono ?_
 rintro e w1 ⟨rfl, h1, kp1⟩
 have hx : w1.heap[w.heap.size]? = some (.cells #[.int .u64 k0, .int .u64 k1, .int .u64 k2, .int .u64 k3, .int .u64 k4, .int .u64 k5] 232 (0, 0)) := (kp1.block _ (Or.inr ⟨Nat.le_refl _, by simp⟩)).trans HG.out.2.2.2.2.2
 have a0 : w1.cell? ⟨w.heap.size, 0, none⟩ = some (.int .u64 k0) := by rw [cell_of_block hx]; rfl
 have a1 : w1.cell? ⟨w.heap.size, 1, none⟩ = some (.int .u64 k1) := by rw [cell_of_block hx]; rfl
 have a2 : w1.cell? ⟨w.heap.size, 2, none⟩ = some (.int .u64 k2) := by rw [cell_of_block hx]; rfl
 have a3 : w1.cell? ⟨w.heap.size, 3, none⟩ = some (.int .u64 k3) := by rw [cell_of_block hx]; rfl
 have a4 : w1.cell? ⟨w.heap.size, 4, none⟩ = some (.int .u64 k4) := by rw [cell_of_block hx]; rfl
 have a5 : w1.cell? ⟨w.heap.size, 5, none⟩ = some (.int .u64 k5) := by rw [cell_of_block hx]; rfl
 have h1' := h1.mono (Z := Y) fun k hk => Or.inl hk
 have kp1' := (Keep.of_below HG.out.2.2.1 h.yl).trans (kp1.mono (Z := Y) fun k hk => Or.inl hk)
 have H1 := kq3 h1' kp1' (HG.out.2.2.2.2.1 w1 Y h1')
 clear h1 kp1 hx h1' kp1' h
 cases er with
 | succ er =>
  have hR1 : R = ((0, er + 1), S1) := by rw [← HG.out.2.1]; rfl
  have hq1 : (((er + 1 : Nat) : Int) != 0) = true := by simp; omega
  obtain ⟨g1, hg1⟩ : ∃ g1, er + 1 = g1 := ⟨_, rfl⟩
  rw [hg1] at hR1 hq1
  simp only [hg1]
  have HR1 := Lib.hid hR1
  clear hR1 hg1
  go_wp2_with fail
  go_ret2
  obtain rfl := HR1.out
  exact ⟨rfl, H1.out.1, H1.out.2.1⟩
 | zero =>
  have hR1 : R = ((hh, (putNode S1 hh ⟨k0, k1, k2, k3, k4, k5⟩).1), (putNode S1 hh ⟨k0, k1, k2, k3, k4, k5⟩).2) := by rw [← HG.out.2.1]; rfl
  have HR1 := Lib.hid hR1
  clear hR1
  go_wp2_with fail
  refine H1.out.2.2.mono ?_
  rintro e w2 ⟨rfl, h2, kp2⟩
  have H2 := kq2 h2 (H1.out.2.1.trans kp2)
  clear h2 kp2
  go_wp2_with fail
  go_ret2
  obtain rfl := HR1.out
  exact ⟨rfl, H2.out⟩
end Go.Proofs.YtcibkdbpicledaaGreatDoor
namespace Go.Proofs.YtcibkdbpicledaaGreatDoor.Lf
def num (x : Nat) : Option Nat := match x / 4611686018427387904 with | 0 => some x | _ + 1 => none
def heightM (S : St) (h : Nat) : Option Nat := num (markT S h)
def sizeM (S : St) (h : Nat) : Option Nat := num (sizeT S h)
def textM (S : St) (h : Nat) : Option (List UInt8) := if (getBlob S h).2 = 8 then none else some (getBlob S h).1
def downM (S : St) (k : List UInt8) : Nat → Nat → Nat → Option (Nat × Nat)
 | 0, _, below => some (0, below)
 | f + 1, root, below =>
  if root = 0 then some (0, below)
  else if (getNode S root).2 ≠ 0 then some (0, below)
  else match textM S (getNode S root).1.key with
   | none => none
   | some t =>
    if cmpB k t < 0 then downM S k f (getNode S root).1.left below
    else match sizeM S (getNode S root).1.left with
     | none => none
     | some z =>
      if 0 < cmpB k t then (match num (below + (z + 1)) with | none => none | some b => downM S k f (getNode S root).1.right b)
      else (match num (below + z) with | none => none | some b => some (root, b))
theorem downM_zero (S : St) (k : List UInt8) (root below : Nat) : downM S k 0 root below = some (0, below) := rfl
theorem downM_succ (S : St) (k : List UInt8) (f root below : Nat) : downM S k (f + 1) root below =
 if root = 0 then some (0, below)
 else if (getNode S root).2 ≠ 0 then some (0, below)
 else match textM S (getNode S root).1.key with
  | none => none
  | some t =>
   if cmpB k t < 0 then downM S k f (getNode S root).1.left below
   else match sizeM S (getNode S root).1.left with
    | none => none
    | some z =>
     if 0 < cmpB k t then (match num (below + (z + 1)) with | none => none | some b => downM S k f (getNode S root).1.right b)
     else (match num (below + z) with | none => none | some b => some (root, b)) := rfl
def rankM (S : St) (root : Nat) (k : List UInt8) : Option Nat := (downM S k (limit S) root 0).map (·.2)
def atM (S : St) : Nat → Nat → Nat → Option (Nat × Nat)
 | 0, _, _ => some (0, 2)
 | f + 1, root, k =>
  if (getNode S root).2 ≠ 0 then some (0, 2)
  else match sizeM S (getNode S root).1.left with
   | none => none
   | some z =>
    if k < z then atM S f (getNode S root).1.left k
    else if z < k then atM S f (getNode S root).1.right (k - (z + 1))
    else some (root, 0)
theorem atM_zero (S : St) (root k : Nat) : atM S 0 root k = some (0, 2) := rfl
theorem atM_succ (S : St) (f root k : Nat) : atM S (f + 1) root k =
 if (getNode S root).2 ≠ 0 then some (0, 2)
 else match sizeM S (getNode S root).1.left with
  | none => none
  | some z =>
   if k < z then atM S f (getNode S root).1.left k
   else if z < k then atM S f (getNode S root).1.right (k - (z + 1))
   else some (root, 0) := rfl
def walkAtM (S : St) (root k : Nat) : Option (Nat × Nat) :=
 match sizeM S root with
 | none => none
 | some z => if z ≤ k then some (0, 2) else atM S (limit S) root k
def withM (S : St) (n : Nd) (h l r : Nat) : Option St :=
 match heightM S l, heightM S r, sizeM S l, sizeM S r with
 | some a, some b, some x, some y => some (putNode S h { n with left := l, right := r, mark := max a b + 1, size := x + y + 1 }).2
 | _, _, _, _ => none
def balanceM (S : St) (h : Nat) : Option (Nat × St) :=
 match heightM S (getNode S h).1.left, heightM S (getNode S h).1.right with
 | some a, some b => if a ≤ b + 1 ∧ b ≤ a + 1 then some (h, S) else none
 | _, _ => none
def joinM (n : Nd) (m : Nat) : Nat → St → Nat → Nat → Option (Nat × St)
 | 0, S, l, r => (withM S n m l r).map fun S' => (m, S')
 | f + 1, S, l, r =>
  match heightM S l, heightM S r with
  | some a, some b =>
   if b + 1 < a then
    match joinM n m f S (getNode S l).1.right r with
    | none => none
    | some (x, S1) =>
     match withM S1 (getNode S l).1 l (getNode S l).1.left x with
     | none => none
     | some S2 => balanceM S2 l
   else if a + 1 < b then
    match joinM n m f S l (getNode S r).1.left with
    | none => none
    | some (x, S1) =>
     match withM S1 (getNode S r).1 r x (getNode S r).1.right with
     | none => none
     | some S2 => balanceM S2 r
   else (withM S n m l r).map fun S' => (m, S')
  | _, _ => none
theorem joinM_zero (n : Nd) (m : Nat) (S : St) (l r : Nat) : joinM n m 0 S l r = (withM S n m l r).map fun S' => (m, S') := rfl
theorem joinM_succ (n : Nd) (m f : Nat) (S : St) (l r : Nat) : joinM n m (f + 1) S l r =
 match heightM S l, heightM S r with
 | some a, some b =>
  if b + 1 < a then
   match joinM n m f S (getNode S l).1.right r with
   | none => none
   | some (x, S1) =>
    match withM S1 (getNode S l).1 l (getNode S l).1.left x with
    | none => none
    | some S2 => balanceM S2 l
  else if a + 1 < b then
   match joinM n m f S l (getNode S r).1.left with
   | none => none
   | some (x, S1) =>
    match withM S1 (getNode S r).1 r x (getNode S r).1.right with
    | none => none
    | some S2 => balanceM S2 r
  else (withM S n m l r).map fun S' => (m, S')
 | _, _ => none := rfl
def isT (S : St) (h : Nat) : Bool := h = 0 || (getNode S h).2 = 0
abbrev Jn := St → Nat → Nat → Nat → Option ((Nat × Nat) × St)
def cjoinM (jn : Jn) (S : St) (l m r : Nat) : Option (Nat × St) :=
 (jn S l m r).map fun x => (if x.1.2 = 0 then x.1.1 else m, x.2)
def splitM (jn : Jn) (key : List UInt8) : Nat → St → Nat → Option ((Nat × Nat × Nat) × St)
 | 0, S, _ => some ((0, 0, 0), S)
 | f + 1, S, root =>
  if root = 0 then some ((0, 0, 0), S)
  else match textM S (getNode S root).1.key with
   | none => none
   | some k =>
    if cmpB key k < 0 then
     match splitM jn key f S (getNode S root).1.left with
     | none => none
     | some ((l, m, r), S1) => (cjoinM jn S1 r root (getNode S root).1.right).map fun x => ((l, m, x.1), x.2)
    else if 0 < cmpB key k then
     match splitM jn key f S (getNode S root).1.right with
     | none => none
     | some ((l, m, r), S1) => (cjoinM jn S1 (getNode S root).1.left root l).map fun x => ((x.1, m, r), x.2)
    else some (((getNode S root).1.left, root, (getNode S root).1.right), S)
theorem splitM_zero (jn : Jn) (key : List UInt8) (S : St) (root : Nat) : splitM jn key 0 S root = some ((0, 0, 0), S) := rfl
theorem splitM_succ (jn : Jn) (key : List UInt8) (f : Nat) (S : St) (root : Nat) : splitM jn key (f + 1) S root =
 if root = 0 then some ((0, 0, 0), S)
 else match textM S (getNode S root).1.key with
  | none => none
  | some k =>
   if cmpB key k < 0 then
    match splitM jn key f S (getNode S root).1.left with
    | none => none
    | some ((l, m, r), S1) => (cjoinM jn S1 r root (getNode S root).1.right).map fun x => ((l, m, x.1), x.2)
   else if 0 < cmpB key k then
    match splitM jn key f S (getNode S root).1.right with
    | none => none
    | some ((l, m, r), S1) => (cjoinM jn S1 (getNode S root).1.left root l).map fun x => ((x.1, m, r), x.2)
   else some (((getNode S root).1.left, root, (getNode S root).1.right), S) := rfl
end Go.Proofs.YtcibkdbpicledaaGreatDoor.Lf
